/- . -/
import Derived.Test.YtbjagmlbamjdbaaGreatPx0RootOnce
import Derived.Test.YtbjagmlbamjdbaaGreatPx1RootOnce
import Derived.Test.YtbjagmlbamjdbaaGreatPx2RootOnce
import Derived.Laws.IdiomStrings
import Derived.Lib.AppendZerosOnto
import Derived.Lib.AppendStr
import Derived.Lib.ConvBytes
import Derived.Maps.AppendAt
import Derived.Laws.BitsAll
import Derived.Laws.ShiftsVar
import Derived.Laws.OwnMore
import Derived.Laws.ResultCell

set_option linter.unusedSimpArgs false
set_option linter.unusedVariables false
section
namespace Go.Proofs.YtbjagmlbamjdbaaGreat.disks
open Go.RowKit Go.Maps Go.My Go.ChangeMaps
set_option maxRecDepth 100000

variable {W w w' : World} {d q : Nat} {F F' : Nat → Prop} {X X' Y : DV} {bv : Value} {m : List (Int × (Value × List Blk))}

theorem conv_own {base n : Nat} {v : Value} {b : Blk} (h : w.ownsRow base 5 1 v n (cellsB b)) : (convert 101 9 v).run Tryz.prog w = .ok (.string ⟨b.toArray⟩) w := by
  have hn : n = b.length := by have := h.1; rw [cellsB_length] at this; omega
  subst hn
  rcases h.2 with ⟨rfl, h0⟩ | ⟨g, cap, cur, rfl, _, hg, hc, _, hcs, ht⟩
  · have : b = [] := List.eq_nil_of_length_eq_zero h0
    subst this
    rw [run_convert_bytes_string w 101 9 5 none 0 0 Tryz.underlying101 Tryz.underlying5 Tryz.underlying9]
    rfl
  · refine run_convert_bytes_back w 101 9 5 ⟨g, 0, none⟩ cap b Tryz.underlying101 Tryz.underlying5 Tryz.underlying9 (fun j hj => ?_)
    have e : (⟨g, 0, none⟩ : Addr).add j = ⟨g, j, none⟩ := by unfold Addr.add; split <;> simp_all
    rw [e]
    have h1 : cur.toList[j]? = some (.int .u8 (b[j].toNat : Int)) := by
      have h2 : (cur.toList.take (b.length * 1))[j]? = (cellsB b)[j]? := by rw [ht]
      rw [List.getElem?_take_of_lt (by omega)] at h2
      rw [h2]
      simp [cellsB, hj]
    exact cell_of_block hg (by rw [← Array.getElem?_toList]; exact h1)

theorem ImgAt.sl {base : Nat} {v : Value} {L : List Blk} (h : ImgAt w base v L) : ∃ oa cap, v = .slice oa L.length cap := by
  obtain ⟨gs, _, hr, _⟩ := h.ex
  exact own_slice hr

theorem ImgAt.kept {base : Nat} {v : Value} {L : List Blk} (h : ImgAt w base v L) {S : Nat → Prop} (hc : Chg S w w') (hs : ∀ k, base ≤ k → ¬ S k) : ImgAt w' base v L := by
  obtain ⟨gs, h1, h2, h3, h4⟩ := h.ex
  exact ⟨gs, h1, row_kept h2 hc (fun g hg => hs g (h2.lt g hg).1), fun i g b hg hb => ⟨row_kept (h3 i g b hg hb).1 hc (fun k hk => hs k ((h3 i g b hg hb).1.lt k hk).1), (h3 i g b hg hb).2⟩, h4⟩

theorem flush_at (w : World) (h : DiskAt w d F X) (hf : X.fuse ≤ 9223372036854775807) :
    Calls Tryz.prog 167 #[.pointer (some ⟨d, 0, none⟩)] w fun e w' => e = .returned (.int .i64 (flushC X)) ∧ DiskAt w' d F X.flush ∧ Chg F w w' := by
  obtain ⟨bv, q, m, h⟩ := h
  exact flush_any w h hf

theorem DiskAt.lt (h : DiskAt w d F X) : ∀ k, F k → k < w.heap.size := by obtain ⟨_, _, _, h⟩ := h; exact h.lt

structure Two (W w : World) (Fx : Nat → Prop) (dx : Nat) (X : DV) (Fy : Nat → Prop) (dy : Nat) (Y : DV) : Prop where
  x : DiskAt w dx Fx X
  y : DiskAt w dy Fy Y
  ox : ∀ k, Fx k → W.heap.size ≤ k
  oy : ∀ k, Fy k → W.heap.size ≤ k
  ap : ∀ k, Fx k → ¬ Fy k
  chg : Chg (fun _ => False) W w

variable {Fx Fy : Nat → Prop} {dx dy : Nat}

theorem Two.fresh (h : Two W w Fx dx X Fy dy Y) (hc : Chg (fun _ => False) w w') : Two W w' Fx dx X Fy dy Y :=
  ⟨h.x.fresh hc, h.y.fresh hc, h.ox, h.oy, h.ap, h.chg.trans' hc⟩

end Go.Proofs.YtbjagmlbamjdbaaGreat.disks
end

section
namespace Go.Proofs.YtbjagmlbamjdbaaGreat.wals
open Go.My disks

def crcStep (c : Nat) : Nat := (c / 2) ^^^ (if c % 2 = 1 then 3988292384 else 0)
def crcN : Nat → Nat → Nat
  | 0, c => c
  | k + 1, c => crcStep (crcN k c)
def crcByte (c : Nat) (x : UInt8) : Nat := crcN 8 (c ^^^ x.toNat)
def crcReg (l : List UInt8) : Nat := l.foldl crcByte 4294967295
def crcF (l : List UInt8) : Nat := 4294967295 ^^^ crcReg l

theorem crcStep_lt {c : Nat} (h : c < 4294967296) : crcStep c < 4294967296 := by
  unfold crcStep
  apply Nat.xor_lt_two_pow (n := 32)
  · omega
  · split <;> omega
theorem crcN_lt {c : Nat} (h : c < 4294967296) : ∀ k, crcN k c < 4294967296
  | 0 => h
  | k + 1 => crcStep_lt (crcN_lt h k)
theorem crcByte_lt {c : Nat} (h : c < 4294967296) (x : UInt8) : crcByte c x < 4294967296 := by
  refine crcN_lt ?_ 8
  apply Nat.xor_lt_two_pow (n := 32)
  · exact h
  · have := x.toNat_lt; omega
theorem crcReg_lt (l : List UInt8) : crcReg l < 4294967296 := by
  unfold crcReg
  have : ∀ (l : List UInt8) (c : Nat), c < 4294967296 → l.foldl crcByte c < 4294967296 := by
    intro l
    induction l with
    | nil => intro c h; exact h
    | cons x l ih => intro c h; exact ih _ (crcByte_lt h x)
  exact this l _ (by omega)
theorem crcReg_snoc (l : List UInt8) (x : UInt8) : crcReg (l ++ [x]) = crcByte (crcReg l) x := by simp [crcReg]
theorem crcF_lt (l : List UInt8) : crcF l < 4294967296 := Nat.xor_lt_two_pow (n := 32) (by omega) (crcReg_lt l)

def zeros (n : Nat) : Blk := List.replicate n 0
def headPre (s a u : Nat) : Blk := [86, 72, UInt8.ofNat a, 0] ++ be 8 s ++ be 4 u ++ zeros 44
def headB (s a u : Nat) : Blk := headPre s a u ++ le4 (crcF (headPre s a u))

theorem headPre_length (s a u : Nat) : (headPre s a u).length = 60 := by simp [headPre, be_length, zeros]
theorem headB_length (s a u : Nat) : (headB s a u).length = 64 := by simp [headB, headPre_length, le4_length]

def readH (b : Blk) (pl most : Nat) : Option (Nat × Nat × Nat) :=
  if ofBe ((b.drop 4).take 8) < 1 ∨ 1152921504606846976 < ofBe ((b.drop 4).take 8) ∨ ofBe ((b.drop 4).take 8) % 2 ≠ pl ∨ 1 < (b[2]?.getD 0).toNat ∨ most < ofBe ((b.drop 12).take 4) then none
  else if headB (ofBe ((b.drop 4).take 8)) (b[2]?.getD 0).toNat (ofBe ((b.drop 12).take 4)) = b then some (ofBe ((b.drop 4).take 8), (b[2]?.getD 0).toNat, ofBe ((b.drop 12).take 4)) else none

theorem head_seq (s a u : Nat) (h : s < 18446744073709551616) : ofBe (((headB s a u).drop 4).take 8) = s := by
  have : ((headB s a u).drop 4).take 8 = be 8 s := by
    unfold headB headPre
    simp only [List.append_assoc]
    rw [List.drop_append_of_le_length (by simp), List.drop_eq_nil_of_le (by simp), List.nil_append, List.take_append_of_le_length (by simp [be_length]), List.take_of_length_le (by simp [be_length])]
  rw [this, ofBe_be]
  exact Nat.mod_eq_of_lt (by simpa using h)
theorem head_used (s a u : Nat) (h : u < 4294967296) : ofBe (((headB s a u).drop 12).take 4) = u := by
  have : ((headB s a u).drop 12).take 4 = be 4 u := by
    unfold headB headPre
    rw [show [86, 72, UInt8.ofNat a, 0] ++ be 8 s ++ be 4 u ++ zeros 44 ++ le4 (crcF ([86, 72, UInt8.ofNat a, 0] ++ be 8 s ++ be 4 u ++ zeros 44)) = ([86, 72, UInt8.ofNat a, 0] ++ be 8 s) ++ (be 4 u ++ (zeros 44 ++ le4 (crcF ([86, 72, UInt8.ofNat a, 0] ++ be 8 s ++ be 4 u ++ zeros 44)))) by simp only [List.append_assoc]]
    rw [List.drop_append_of_le_length (by simp [be_length]), List.drop_eq_nil_of_le (by simp [be_length]), List.nil_append, List.take_append_of_le_length (by simp [be_length]), List.take_of_length_le (by simp [be_length])]
  rw [this, ofBe_be]
  exact Nat.mod_eq_of_lt (by simpa using h)
theorem head_area (s a u : Nat) (h : a < 256) : ((headB s a u)[2]?.getD 0).toNat = a := by
  have : (headB s a u)[2]? = some (UInt8.ofNat a) := by simp [headB, headPre]
  rw [this]
  simp only [Option.getD_some, UInt8.toNat_ofNat']
  omega
theorem readH_head {s a u pl most : Nat} (h1 : 1 ≤ s) (h2 : s ≤ 1152921504606846976) (h3 : s % 2 = pl) (h4 : a ≤ 1) (h5 : u ≤ most) (h6 : most < 4294967296) : readH (headB s a u) pl most = some (s, a, u) := by
  unfold readH
  rw [head_seq s a u (by omega), head_used s a u (by omega), head_area s a u (by omega), if_neg (by omega), if_pos rfl]
theorem readH_zeros (pl most : Nat) : readH (zeros 64) pl most = none := by
  unfold readH
  rw [if_pos (Or.inl (by decide))]

def frameB (r : Blk) : Blk := le4 r.length ++ r ++ le4 (crcF (le4 r.length ++ r))
def framesB (l : List Blk) : Blk := (l.map frameB).flatten
theorem frameB_length (r : Blk) : (frameB r).length = r.length + 8 := by simp [frameB, le4_length]; omega
theorem framesB_nil : framesB [] = [] := rfl
theorem framesB_cons (r : Blk) (l : List Blk) : framesB (r :: l) = frameB r ++ framesB l := by simp [framesB]
theorem framesB_append (l m : List Blk) : framesB (l ++ m) = framesB l ++ framesB m := by simp [framesB]
def sizeB (l : List Blk) : Nat := (l.map (fun r => r.length + 8)).sum
theorem framesB_length (l : List Blk) : (framesB l).length = sizeB l := by
  induction l with
  | nil => rfl
  | cons r l ih => rw [framesB_cons, List.length_append, ih, frameB_length]; simp [sizeB]

def readF (b : Blk) : Blk × Nat × Nat :=
  if b.length < 4 then ([], 0, 4)
  else if 4096 < ofLe (b.take 4) then ([], 0, 3)
  else if b.length < 8 + ofLe (b.take 4) then ([], 0, 4)
  else if ofLe ((b.drop (4 + ofLe (b.take 4))).take 4) ≠ crcF (b.take (4 + ofLe (b.take 4))) then ([], 0, 6)
  else ((b.drop 4).take (ofLe (b.take 4)), ofLe (b.take 4) + 8, 0)

def allN : Nat → Blk → List Blk × Nat × Nat
  | 0, _ => ([], 0, 0)
  | k + 1, b => if b = [] then ([], 0, 0) else if (readF b).2.2 ≠ 0 then ([], 0, (readF b).2.2)
    else ((readF b).1 :: (allN k (b.drop (readF b).2.1)).1, (readF b).2.1 + (allN k (b.drop (readF b).2.1)).2.1, (allN k (b.drop (readF b).2.1)).2.2)
def allF (b : Blk) : List Blk × Nat × Nat := allN b.length b

theorem readF_frame (r rest : Blk) (h : r.length ≤ 4096) : readF (frameB r ++ rest) = (r, r.length + 8, 0) := by
  have e4 : (frameB r ++ rest).take 4 = le4 r.length := by
    unfold frameB
    simp only [List.append_assoc]
    rw [List.take_append_of_le_length (by simp [le4_length]), List.take_of_length_le (by simp [le4_length])]
  have eo : ofLe (le4 r.length) = r.length := ofLe_le4 _ (by omega)
  have e1 : (frameB r ++ rest).drop 4 = r ++ (le4 (crcF (le4 r.length ++ r)) ++ rest) := by
    unfold frameB
    simp only [List.append_assoc]
    rw [List.drop_append_of_le_length (by simp [le4_length]), List.drop_eq_nil_of_le (by simp [le4_length]), List.nil_append]
  have e2 : (frameB r ++ rest).take (4 + r.length) = le4 r.length ++ r := by
    unfold frameB
    rw [List.append_assoc, List.take_append_of_le_length (by simp [le4_length]), List.take_of_length_le (by simp [le4_length])]
  have e3 : ((frameB r ++ rest).drop (4 + r.length)).take 4 = le4 (crcF (le4 r.length ++ r)) := by
    unfold frameB
    rw [List.append_assoc, List.drop_append_of_le_length (by simp [le4_length]), List.drop_eq_nil_of_le (by simp [le4_length]), List.nil_append, List.take_append_of_le_length (by simp [le4_length]), List.take_of_length_le (by simp [le4_length])]
  unfold readF
  rw [e4, eo, e3, e2, ofLe_le4 _ (crcF_lt _), e1]
  have hl := frameB_length r
  rw [if_neg (by simp only [List.length_append]; omega), if_neg (by omega), if_neg (by simp only [List.length_append]; omega), if_neg (by simp)]
  rw [List.take_append_of_le_length (Nat.le_refl _), List.take_of_length_le (Nat.le_refl _)]

theorem allN_frames (l : List Blk) (h : ∀ r ∈ l, r.length ≤ 4096) : ∀ k, l.length ≤ k → allN k (framesB l) = (l, (framesB l).length, 0) := by
  induction l with
  | nil => intro k _; cases k <;> simp [allN, framesB_nil]
  | cons r l ih =>
    intro k hk
    cases k with
    | zero => simp at hk
    | succ k =>
      have hne : framesB (r :: l) ≠ [] := by
        intro e
        have := congrArg List.length e
        rw [framesB_cons, List.length_append, frameB_length] at this
        simp at this
      rw [allN, if_neg hne, framesB_cons, readF_frame r _ (h r (by simp)), if_neg (by simp)]
      have hd : (frameB r ++ framesB l).drop (r.length + 8) = framesB l := by
        rw [← frameB_length r, List.drop_left]
      dsimp only
      rw [hd, ih (fun x hx => h x (by simp [hx])) k (by simpa using hk)]
      simp [frameB_length]
theorem sizeB_ge (l : List Blk) : l.length * 8 ≤ sizeB l := by
  induction l with
  | nil => simp [sizeB]
  | cons r l ih => simp only [sizeB, List.map_cons, List.sum_cons, List.length_cons] at *; omega
theorem allF_frames (l : List Blk) (h : ∀ r ∈ l, r.length ≤ 4096) : allF (framesB l) = (l, (framesB l).length, 0) := by
  refine allN_frames l h _ ?_
  have := sizeB_ge l
  rw [framesB_length]
  omega

def chunkAt (b : Blk) (k : Nat) : Blk := (b.drop (64 * k)).take 64 ++ zeros (64 - (b.drop (64 * k)).length)
def chunks (b : Blk) : List Blk := (List.range ((b.length + 63) / 64)).map (chunkAt b)
theorem chunkAt_length (b : Blk) (k : Nat) : (chunkAt b k).length = 64 := by simp [chunkAt, zeros]; omega
theorem chunks_length (b : Blk) : (chunks b).length = (b.length + 63) / 64 := by simp [chunks]
theorem chunks_get (b : Blk) {k : Nat} (h : k < (b.length + 63) / 64) : (chunks b)[k]? = some (chunkAt b k) := by simp [chunks, h]
theorem chunkAt_get (b : Blk) (k r : Nat) (hr : r < 64) (h : 64 * k + r < b.length) : (chunkAt b k)[r]? = b[64 * k + r]? := by
  unfold chunkAt
  rw [List.getElem?_append_left (by rw [List.length_take, List.length_drop]; omega), List.getElem?_take_of_lt hr, List.getElem?_drop]

def wrBlocks (X : DV) (pl : Nat) : List Blk → Int × DV
  | [] => (0, X)
  | b :: bs => if writeC X pl b.length ≠ 0 then (writeC X pl b.length, X.write pl b) else wrBlocks (X.write pl b) (pl + 1) bs

def putH (X : DV) (s a u : Nat) : Int × DV :=
  if writeC X ((s % 2 : Nat) : Int) 64 ≠ 0 then (writeC X ((s % 2 : Nat) : Int) 64, X.write ((s % 2 : Nat) : Int) (headB s a u))
  else if flushC (X.write ((s % 2 : Nat) : Int) (headB s a u)) ≠ 0 then (flushC (X.write ((s % 2 : Nat) : Int) (headB s a u)), (X.write ((s % 2 : Nat) : Int) (headB s a u)).flush)
  else (0, (X.write ((s % 2 : Nat) : Int) (headB s a u)).flush)

def layF (X : DV) (pl : Nat) (b : Blk) (s a u : Nat) : Int × DV :=
  if (wrBlocks X pl (chunks b)).1 ≠ 0 then wrBlocks X pl (chunks b)
  else if flushC (wrBlocks X pl (chunks b)).2 ≠ 0 then (flushC (wrBlocks X pl (chunks b)).2, (wrBlocks X pl (chunks b)).2.flush)
  else putH (wrBlocks X pl (chunks b)).2.flush s a u

structure LV where
  seq : Nat
  area : Nat
  used : Nat
  recs : List Blk
  tail : Blk
  wait : List Blk
  more : Nat
  lost : Bool

def areaN (n : Nat) : Nat := (n - 2) / 2
def firstN (n a : Nat) : Nat := 2 + a * areaN n
def roomF (n : Nat) (V : LV) : Int := 64 * (areaN n : Int) - V.used - V.more

def addF (n : Nat) (V : LV) (r : Blk) : Nat × LV :=
  if V.lost then (15, V) else if 4096 < r.length then (3, V) else if roomF n V < (r.length : Int) + 8 then (7, V)
  else (0, { V with wait := V.wait ++ [r], more := V.more + (r.length + 8) })

def syncF (X : DV) (V : LV) : Int × DV × LV :=
  if V.lost then (15, X, V) else if V.wait = [] then (0, X, V)
  else if (layF X (firstN X.B.length V.area + V.used / 64) (V.tail ++ framesB V.wait) (V.seq + 1) V.area (V.used + (framesB V.wait).length)).1 ≠ 0 then
    ((layF X (firstN X.B.length V.area + V.used / 64) (V.tail ++ framesB V.wait) (V.seq + 1) V.area (V.used + (framesB V.wait).length)).1, (layF X (firstN X.B.length V.area + V.used / 64) (V.tail ++ framesB V.wait) (V.seq + 1) V.area (V.used + (framesB V.wait).length)).2, { V with lost := true })
  else (0, (layF X (firstN X.B.length V.area + V.used / 64) (V.tail ++ framesB V.wait) (V.seq + 1) V.area (V.used + (framesB V.wait).length)).2,
    ⟨V.seq + 1, V.area, V.used + (framesB V.wait).length, V.recs ++ V.wait, (V.tail ++ framesB V.wait).drop ((V.tail ++ framesB V.wait).length / 64 * 64), [], 0, false⟩)

def resetF (X : DV) (V : LV) (recs : List Blk) : Int × DV × LV :=
  if V.lost then (15, X, V) else if V.wait ≠ [] then (11, X, V) else if ∃ r ∈ recs, 4096 < r.length then (3, X, V)
  else if 64 * areaN X.B.length < sizeB recs then (7, X, V)
  else if (layF X (firstN X.B.length (1 - V.area)) (framesB recs) (V.seq + 1) (1 - V.area) (framesB recs).length).1 ≠ 0 then
    ((layF X (firstN X.B.length (1 - V.area)) (framesB recs) (V.seq + 1) (1 - V.area) (framesB recs).length).1, (layF X (firstN X.B.length (1 - V.area)) (framesB recs) (V.seq + 1) (1 - V.area) (framesB recs).length).2, { V with lost := true })
  else (0, (layF X (firstN X.B.length (1 - V.area)) (framesB recs) (V.seq + 1) (1 - V.area) (framesB recs).length).2,
    ⟨V.seq + 1, 1 - V.area, (framesB recs).length, recs, (framesB recs).drop ((framesB recs).length / 64 * 64), [], V.more, false⟩)

def bytesOf (X : DV) (f : Nat) : Nat → Blk
  | 0 => []
  | k + 1 => bytesOf X f k ++ X.cur (f + k)
def pick (h g : Option (Nat × Nat × Nat)) : Option (Nat × Nat × Nat) :=
  match h, g with
  | none, g => g
  | some h, none => some h
  | some h, some g => if h.1 < g.1 then some g else some h
def loadF (X : DV) (s a u : Nat) : Option LV :=
  if (allF ((bytesOf X (firstN X.B.length a) ((u + 63) / 64)).take u)).2.1 ≠ u then none
  else some ⟨s, a, u, (allF ((bytesOf X (firstN X.B.length a) ((u + 63) / 64)).take u)).1, ((bytesOf X (firstN X.B.length a) ((u + 63) / 64)).take u).drop (u / 64 * 64), [], 0, false⟩
def openF (X : DV) : Int × DV × Option LV :=
  if X.down then (15, X, none) else if X.B.length < 6 then (2, X, none)
  else if X.cur 0 = zeros 64 ∧ X.cur 1 = zeros 64 then
    (if (putH X 1 0 0).1 ≠ 0 then ((putH X 1 0 0).1, (putH X 1 0 0).2, none) else (0, (putH X 1 0 0).2, some ⟨1, 0, 0, [], [], [], 0, false⟩))
  else match pick (readH (X.cur 0) 0 (64 * areaN X.B.length)) (readH (X.cur 1) 1 (64 * areaN X.B.length)) with
    | none => (6, X, none)
    | some (s, a, u) => match loadF X s a u with
      | none => (6, X, none)
      | some V => (0, X, some V)

end Go.Proofs.YtbjagmlbamjdbaaGreat.wals
end

section
namespace Go.Proofs.YtbjagmlbamjdbaaGreat.bufs
open Go.RowKit Go.My disks
set_option maxRecDepth 100000

variable {w w' : World}

theorem u8_parts : ∃ i, Tryz.prog.info? 5 = some i ∧ i.zero = some (.int .u8 0) ∧ i.size = 1 ∧ i.bytes = 1 := info_parts info_u8'

theorem own_len {base n : Nat} {v : Value} {xs : Blk} (h : w.ownsRow base 5 1 v n (cellsB xs)) : n = xs.length := by have := h.1; rw [cellsB_length] at this; omega

theorem slat_len {oa : Option Addr} {n cap : Nat} {xs : Blk} (h : SlAt w (.slice oa n cap) (cellsB xs)) : n = xs.length := by
  obtain ⟨_, _, h1, _⟩ := h
  simp only [Value.slice.injEq] at h1
  rw [h1.2.1, cellsB_length]

theorem SlAt.shape {v : Value} {xs : Blk} (h : SlAt w v (cellsB xs)) : ∃ oa cap, v = .slice oa xs.length cap := by
  obtain ⟨oa, cap, h1, _⟩ := h
  exact ⟨oa, cap, by rw [h1, cellsB_length]⟩

theorem append_bytes0 {base n : Nat} {v : Value} {xs ys : Blk} {oa : Option Addr} {m cap : Nat} (h : w.ownsRow base 5 1 v n (cellsB xs)) (hs : SlAt w (.slice oa m cap) (cellsB ys)) (hb : base ≤ w.heap.size) (hl : xs.length + ys.length ≤ 140737488355328) (ty : TypeId) :
    ∃ v' w', (Builtin.append_ #[101, 101] ty #[v, .slice oa m cap]).run Tryz.prog w = .ok v' w' ∧ w'.ownsRow base 5 1 v' (xs.length + ys.length) (cellsB (xs ++ ys)) ∧ w.grownBy w' v.ownBlock ∧ (v'.ownBlock = v.ownBlock ∨ v'.ownBlock = some w.heap.size) := by
  obtain ⟨i, hi, hz, hsz, hby⟩ := u8_parts
  obtain rfl := own_len h
  obtain rfl := slat_len hs
  have hx : cellsB (xs ++ ys) = cellsB xs ++ cellsB ys := by simp [cellsB]
  cases oa with
  | none =>
    have hy : ys = [] := by
      cases ys with
      | nil => rfl
      | cons y ys =>
        obtain ⟨oa', cap', h1, h2, _⟩ := hs
        obtain ⟨b, off, h3⟩ := h2 (by simp [cellsB])
        simp only [Value.slice.injEq] at h1
        rw [← h1.1] at h3; cases h3
    subst hy
    refine ⟨v, w, ?_, by rw [hx]; simpa [cellsB] using h, ⟨rfl, rfl, rfl, Nat.le_refl _, fun _ _ _ => rfl⟩, Or.inl rfl⟩
    rcases h.2 with ⟨rfl, h0⟩ | ⟨g, cap', cur, rfl, _, hg, hc, _⟩
    · simp [Builtin.append_, run_underlying Tryz.underlying101, sizeOf, typeInfo, hi, Builtin.lenOf, Builtin.firstCells]
    · simp [Builtin.append_, run_underlying Tryz.underlying101, sizeOf, typeInfo, hi, Builtin.lenOf, Builtin.firstCells, hc, storeCells]
  | some a =>
    have hcells : ∀ j u, (cellsB ys)[j]? = some u → w.cell? (a.add j) = some u := by
      intro j u hu
      obtain ⟨oa', cap', h1, h2, h3⟩ := hs
      simp only [Value.slice.injEq] at h1
      obtain ⟨b, off, h4⟩ := h2 (by intro e; rw [e] at hu; simp at hu)
      have h5 := h3 b off h4 j u hu
      rw [← h1.1] at h4
      cases h4
      have : (⟨b, off, none⟩ : Addr).add j = ⟨b, off + j, none⟩ := by unfold Addr.add; split <;> simp_all
      rw [this]; exact h5
    obtain ⟨v', w', h1, h2, h3, -, h4⟩ := run_append_own_at (P := Tryz.prog) w base 101 ty 5 i (.int .u8 0) 1 1 Tryz.underlying101 hi hz hsz hby rfl (by decide) v xs.length (cellsB xs) h a ys.length cap (cellsB ys) (by rw [cellsB_length]; omega) hcells (one_cellsB ys) (by unfold maxLen; omega) (by omega) hb
    exact ⟨v', w', h1, by rw [hx]; exact h2, h3, h4⟩

theorem append_zeros0 {base n : Nat} {v : Value} {xs : Blk} {k : Nat} (h : w.ownsRow base 5 1 v n (cellsB xs)) (hne : xs ≠ []) (hb : base ≤ w.heap.size) (hk : 0 < k) (hl : xs.length + k ≤ 140737488355328) (ty : TypeId) :
    ∃ v' w', (Builtin.append_ #[101, 3] ty #[v, .int .i64 (k : Int)]).run Tryz.prog w = .ok v' w' ∧ w'.ownsRow base 5 1 v' (xs.length + k) (cellsB (xs ++ List.replicate k 0)) ∧ w.grownBy w' v.ownBlock ∧ (v'.ownBlock = v.ownBlock ∨ v'.ownBlock = some w.heap.size) := by
  obtain ⟨i, hi, hz, hsz, hby⟩ := u8_parts
  obtain rfl := own_len h
  have hx : cellsB (xs ++ List.replicate k 0) = cellsB xs ++ List.replicate k (.int .u8 0) := by simp [cellsB]
  have hzc : ∀ q, (Builtin.zeroCells (Value.int .u8 0).cells q).toList = List.replicate q (.int .u8 0) := by
    intro q
    apply List.ext_getElem?
    intro j
    by_cases hj : j < q <;> simp [Builtin.zeroCells, Value.cells, hj, Nat.mod_one]
  have hlen : (cellsB xs ++ List.replicate k (Value.int .u8 0)).length = (xs.length + k) * 1 := by simp [cellsB_length]
  rcases h.2 with ⟨rfl, h0⟩ | ⟨g, cap, cur, rfl, hbg, hg, hnc, hcm, hcs, htake⟩
  · exact absurd (List.eq_nil_of_length_eq_zero h0) hne
  · by_cases hroom : xs.length + k ≤ cap
    · have hfit : xs.length + (List.replicate k (Value.int .u8 0)).length ≤ cur.size := by simp; omega
      have hst := run_storeCells_at Tryz.prog g xs.length 5 (List.replicate k (Value.int .u8 0)) 0 cur w hg (by simpa using hfit) (by intro u hu; rw [List.eq_of_mem_replicate hu]; rfl)
      simp only [Nat.add_zero, List.length_replicate] at hst
      have hw : IntKind.i64.wrap (k : Int) = k := by rw [IntKind.wrap_i64]; omega
      have hneg : ¬ ((k : Int) < 0) := by omega
      have hk0 : k ≠ 0 := by omega
      have h48 : ¬ (281474976710656 < (k : Int)) := by omega
      obtain ⟨R, hR⟩ : ∃ R : Array Value, (cur.toList.take xs.length ++ List.replicate k (Value.int .u8 0) ++ cur.toList.drop (xs.length + k)).toArray = R := ⟨_, rfl⟩
      rw [hR] at hst
      refine ⟨.slice (some ⟨g, 0, none⟩) (xs.length + k) cap, w.setRow g R, ?_, ⟨by rw [hx]; exact hlen, .inr ⟨g, cap, R, rfl, hbg, setRow_heap w g cur R 5 _ hg, hroom, hcm, ?_, ?_⟩⟩, ⟨rfl, rfl, rfl, by simp, fun j _ hj => setRow_other w g j R (fun e => hj (by simp [Value.ownBlock, e]))⟩, Or.inl rfl⟩
      · simp [Builtin.append_, run_underlying Tryz.underlying101, run_underlying Tryz.underlying3, sizeOf, typeInfo, zeroValue, hi, hz, hsz, hby, asInt, asIntOf, hw, hneg, hk0, h48, hroom, Addr.add_lit]
        rw [hzc k, hst]
        rfl
      · rw [← hR]
        simp only [List.size_toArray, List.length_append, List.length_take, List.length_drop, Array.length_toList, List.length_replicate]
        omega
      · have : cur.toList.take xs.length = cellsB xs := by simpa using htake
        rw [← hR, hx, this]
        simp only [List.append_assoc]
        rw [← List.append_assoc, ← hlen]
        exact List.take_left
    · have holds : ∀ j u, (cellsB xs)[j]? = some u → w.cell? ((⟨g, 0, none⟩ : Addr).add j) = some u := h.cells (g := g) rfl
      have hfo := run_firstCells_some (P := Tryz.prog) w.drew i.size xs.length ⟨g, 0, none⟩ xs.length cap (cellsB xs) (by rw [cellsB_length, hsz]; omega) (by simpa using holds)
      have hr := Lib.run_append_grow_zeros (P := Tryz.prog) w 101 3 ty 5 i (.int .u8 0) .i64 .i64 Tryz.underlying101 Tryz.underlying3 hi hz (some ⟨g, 0, none⟩) xs.length cap (cellsB xs) hfo k hk (by omega) (by omega) (by omega) (by rw [hby]; omega) (growslice_fits (by omega) (by rw [hby]; omega))
      refine ⟨_, _, hr, ⟨by rw [hx]; exact hlen, .inr ⟨w.heap.size, _, _, rfl, hb, heap_alloc_new w.drew _, grownCap_ge w _ _ _, grownCap_le_maxLen w _ _ _ (by unfold maxLen; omega), ?_, ?_⟩⟩, ⟨rfl, rfl, rfl, by simp, fun j hj _ => Below.heap_alloc _ _ _ hj⟩, Or.inr rfl⟩
      · have := grownCap_ge w (xs.length + k) cap 5
        simp only [Array.size_append, List.size_toArray, size_zeroCells, Value.cells, cellsB_length, List.size_toArray, List.length_cons, List.length_nil]
        omega
      · simp only [Array.toList_append, hzc]
        rw [hx, ← hlen]
        exact List.take_left

theorem append_bytes {base n : Nat} {v : Value} {xs ys : Blk} {oa : Option Addr} {m cap : Nat} (h : w.ownsRow base 5 1 v n (cellsB xs)) (hs : SlAt w (.slice oa m cap) (cellsB ys)) (hb : base ≤ w.heap.size) (hl : xs.length + ys.length ≤ 140737488355328) (ty : TypeId) :
    ∃ v' w', (Builtin.append_ #[101, 101] ty #[v, .slice oa m cap]).run Tryz.prog w = .ok v' w' ∧ w'.ownsRow base 5 1 v' (xs ++ ys).length (cellsB (xs ++ ys)) ∧ w.grownBy w' v.ownBlock ∧ (v'.ownBlock = v.ownBlock ∨ v'.ownBlock = some w.heap.size) := by
  rw [List.length_append]; exact append_bytes0 h hs hb hl ty

theorem append_zeros {base n : Nat} {v : Value} {xs : Blk} {k : Nat} (h : w.ownsRow base 5 1 v n (cellsB xs)) (hne : xs ≠ []) (hb : base ≤ w.heap.size) (hk : 0 < k) (hl : xs.length + k ≤ 140737488355328) (ty : TypeId) :
    ∃ v' w', (Builtin.append_ #[101, 3] ty #[v, .int .i64 (k : Int)]).run Tryz.prog w = .ok v' w' ∧ w'.ownsRow base 5 1 v' (xs ++ List.replicate k 0).length (cellsB (xs ++ List.replicate k 0)) ∧ w.grownBy w' v.ownBlock ∧ (v'.ownBlock = v.ownBlock ∨ v'.ownBlock = some w.heap.size) := by
  rw [List.length_append, List.length_replicate]; exact append_zeros0 h hne hb hk hl ty

theorem string_bytes (w : World) (s : ByteArray) : ∃ v w', (convert 9 101 (.string s)).run Tryz.prog w = .ok v w' ∧ SlAt w' v (cellsB s.data.toList) ∧ Chg (fun _ => False) w w' ∧ (∃ g cap, v = .slice (some ⟨g, 0, none⟩) s.size cap ∧ w.heap.size ≤ g) := by
  refine ⟨_, _, Lib.run_convert_string_bytes (P := Tryz.prog) w 9 101 5 s Tryz.underlying9 Tryz.underlying101 Tryz.underlying5, ?_, ?_, ⟨w.heap.size, _, rfl, Nat.le_refl _⟩⟩
  · have hsl : (cellsB s.data.toList).length = s.size := by rw [cellsB_length]; rfl
    refine ⟨some ⟨w.heap.size, 0, none⟩, _, by rw [hsl], fun _ => ⟨_, _, rfl⟩, fun b off ho i x hx => ?_⟩
    cases ho
    have hi : i < s.size := by have := (List.getElem?_eq_some_iff.1 hx).1; rw [hsl] at this; exact this
    rw [Nat.zero_add, Lib.bytesWorld_cell w _ s i hi]
    have : i < s.data.toList.length := hi
    simp only [cellsB, List.getElem?_map, List.getElem?_eq_getElem this, Option.map_some, Option.some.injEq] at hx
    rw [← hx]
    simp [List.getD, List.getElem?_eq_getElem this]
  · exact ⟨rfl, rfl, rfl, by rw [Lib.bytesWorld_size]; omega, fun k hk _ => Lib.bytesWorld_at_old w _ s k hk⟩

end Go.Proofs.YtbjagmlbamjdbaaGreat.bufs
end

section
namespace Go.Proofs.YtbjagmlbamjdbaaGreat.wals
open Go.RowKit Go.My disks bufs
set_option maxRecDepth 100000

theorem crc_step_bits (c : Nat) (h : c < 4294967296) : bits .xor .u32 ((c : Int) / 2) (bits .and .u32 3988292384 (-(bits .and .u32 (c : Int) 1) % 4294967296)) = ((crcStep c : Nat) : Int) := by
  have h1 : bits .and .u32 (c : Int) 1 = ((c % 2 : Nat) : Int) := by
    have := u32_and_nat c 1 h (by omega)
    rw [show ((1 : Nat) : Int) = 1 from rfl] at this
    rw [this, Nat.and_one_is_mod]
  rw [h1]
  have h2 : (c : Int) / 2 = ((c / 2 : Nat) : Int) := by omega
  rw [h2]
  unfold crcStep
  rcases Nat.mod_two_eq_zero_or_one c with e | e
  · rw [e, if_neg (by omega)]
    have h3 : (-((0 : Nat) : Int)) % 4294967296 = ((0 : Nat) : Int) := rfl
    rw [h3]
    have h4 := u32_and_nat 3988292384 0 (by omega) (by omega)
    rw [show ((3988292384 : Nat) : Int) = 3988292384 from rfl] at h4
    rw [h4, u32_xor_nat _ _ (by omega) (by simp)]
    simp
  · rw [e, if_pos rfl]
    have h3 : (-((1 : Nat) : Int)) % 4294967296 = ((4294967295 : Nat) : Int) := rfl
    rw [h3]
    have h4 := u32_and_nat 3988292384 4294967295 (by omega) (by omega)
    rw [show ((3988292384 : Nat) : Int) = 3988292384 from rfl] at h4
    rw [h4, show 3988292384 &&& 4294967295 = 3988292384 by decide, u32_xor_nat _ _ (by omega) (by omega)]

theorem crc_byte_bits (c : Nat) (h : c < 4294967296) (x : UInt8) : bits .xor .u32 (c : Int) (x.toNat : Int) = ((c ^^^ x.toNat : Nat) : Int) := u32_xor_nat _ _ h (by have := x.toNat_lt; omega)

set_option maxHeartbeats 1000000 in
theorem more_any (w : World) (oa : Option Addr) (n cap : Nat) (bs : Blk) (h : SlAt w (.slice oa n cap) (cellsB bs)) (hn : bs.length ≤ 1000000000) :
    Calls Tryz.prog 211 #[.int .u32 0, .slice oa n cap] w fun e w' => e = .returned (.int .u32 (crcF bs : Int)) ∧ w = w' := by
  obtain rfl := slat_len h
  have HS := Lib.hid h
  have HN := Lib.hid hn
  clear h hn
  obtain ⟨c0, hc0⟩ : ∃ c0, crcReg (bs.take 0) = c0 := ⟨_, rfl⟩
  have hx0 : bits .xor .u32 IntKind.u32.max 0 = (c0 : Int) := by
    have := u32_xor_nat 4294967295 0 (by omega) (by omega)
    rw [show IntKind.u32.max = ((4294967295 : Nat) : Int) from rfl, show (0 : Int) = ((0 : Nat) : Int) from rfl, this, ← hc0]
    simp [crcReg]
  have HX0 := Lib.hid hx0
  have HC0 := Lib.hid hc0
  clear hx0 hc0
  go_enter Tryz.func211, Tryz.ntmps211
  go_wp2_with fail
  rw [HX0.out]
  go_loop [5, 12] (fun c i => ∃ k : Nat, k ≤ bs.length ∧ i = .int .i64 k ∧ c = .int .u32 (crcReg (bs.take k) : Int)) (fun _ i => bs.length - (intOf i).toNat)
  case atStart => exact ⟨0, Nat.zero_le _, rfl, by rw [HC0.out]⟩
  case round =>
    obtain ⟨k, hk, rfl, rfl⟩ := hrel
    have hN := HN.out
    by_cases hlt : k < bs.length
    · have hlt' : (k : Int) < (bs.length : Int) := by omega
      obtain ⟨x, hx⟩ : ∃ x, bs[k]? = some x := ⟨bs[k], List.getElem?_eq_getElem hlt⟩
      obtain ⟨b, off, rfl, -, hcell⟩ := HS.out.cell (k := k) (by rw [cellsB_length]; exact hlt)
      have hv : (cellsB bs)[k]'(by rw [cellsB_length]; exact hlt) = .int .u8 (x.toNat : Int) := by
        have : (cellsB bs)[k]? = some (.int .u8 (x.toNat : Int)) := by simp [cellsB, hx]
        rw [List.getElem?_eq_getElem (by rw [cellsB_length]; exact hlt)] at this
        exact Option.some.inj this
      rw [hv] at hcell
      have hr := crcReg_lt (bs.take k)
      obtain ⟨c, hc⟩ : ∃ c, crcReg (bs.take k) = c := ⟨_, rfl⟩
      have htk : crcReg (bs.take (k + 1)) = crcByte c x := by
        rw [List.take_add_one, hx, Option.toList_some, crcReg_snoc, hc]
      rw [hc] at hr ⊢
      have hwr : (x.toNat : Int) % 4294967296 = (x.toNat : Int) := by have := x.toNat_lt; omega
      have hxb := crc_byte_bits c hr x
      have hc8 : (c ^^^ x.toNat) < 4294967296 := by
        have := x.toNat_lt
        exact Nat.xor_lt_two_pow (n := 32) hr (by omega)
      obtain ⟨e, he⟩ : ∃ e, c ^^^ x.toNat = e := ⟨_, rfl⟩
      have htk2 : crcReg (bs.take (k + 1)) = crcN 8 e := by rw [htk, ← he]; rfl
      rw [he] at hxb hc8
      have HTK := Lib.hid htk2
      have HC8 := Lib.hid hc8
      clear htk htk2 hv hx hc hr he hc8
      go_wp2_with fail
      clear hxb hwr hcell
      go_loop [5, 20] (fun c j => ∃ m : Nat, m ≤ 8 ∧ j = .int .i64 m ∧ c = .int .u32 (crcN m e : Int)) (fun _ j => 8 - (intOf j).toNat)
      case atStart => exact ⟨0, Nat.zero_le _, rfl, rfl⟩
      case round =>
        obtain ⟨m, hm, rfl, rfl⟩ := hrel
        by_cases hm8 : m < 8
        · have hm8' : (m : Int) < 8 := by omega
          have hst := crc_step_bits (crcN m e) (crcN_lt HC8.out m)
          have HST := Lib.hid hst
          clear hst
          go_wp2_with fail
          exact ⟨⟨m + 1, by omega, by go_num, by rw [HST.out]; rfl⟩, by simp [intOf]; omega⟩
        · go_wp2_with fail
          obtain rfl : m = 8 := by omega
          exact ⟨⟨k + 1, by omega, by go_num, by rw [HTK.out]⟩, by simp [intOf]; omega⟩
    · go_wp2_with fail
      go_ret
      obtain rfl : k = bs.length := by omega
      refine ⟨?_, rfl⟩
      have hm : bits .xor .u32 IntKind.u32.max (crcReg bs : Int) = (crcF bs : Int) := by
        rw [show IntKind.u32.max = ((4294967295 : Nat) : Int) from rfl, u32_xor_nat _ _ (by omega) (crcReg_lt bs)]; rfl
      rw [List.take_of_length_le (Nat.le_refl _), hm]
      rfl

theorem sum_any (w : World) (oa : Option Addr) (n cap : Nat) (bs : Blk) (h : SlAt w (.slice oa n cap) (cellsB bs)) (hn : bs.length ≤ 1000000000) :
    Calls Tryz.prog 178 #[.slice oa n cap] w fun e w' => e = .returned (.int .u32 (crcF bs : Int)) ∧ w = w' := by
  have H := Lib.hid (more_any w oa n cap bs h hn)
  clear h hn
  go_enter Tryz.func178, Tryz.ntmps178
  go_wp2_with (first
    | (go_at_call 211; refine H.out.mono ?_; rintro e w1 ⟨rfl, rfl⟩))
  go_ret
  exact ⟨rfl, rfl⟩

end Go.Proofs.YtbjagmlbamjdbaaGreat.wals
end

section
namespace Go.Proofs.YtbjagmlbamjdbaaGreat.wals
open Go.RowKit Go.My disks bufs
set_option maxRecDepth 100000

theorem ofNat_toNat (n : Nat) : ((UInt8.ofNat n).toNat : Int) = (n : Int) % 256 := by rw [UInt8.toNat_ofNat']; omega

theorem low_any (w : World) (n : Nat) (hn : n < 4294967296) :
    Calls Tryz.prog 186 #[.int .u32 (n : Int)] w fun e w' => ∃ s, e = .returned s ∧ w'.ownsRow w.heap.size 5 1 s 4 (cellsB (le4 n)) ∧ Chg (fun _ => False) w w' := by
  have HN := Lib.hid hn
  clear hn
  go_enter Tryz.func186, Tryz.ntmps186
  go_wp2_with fail
  go_ret
  refine ⟨_, rfl, ?_, (Chg.refl _ _).alloc _⟩
  have e : cellsB (le4 n) = [.int .u8 ((n : Int) % 256), .int .u8 ((n : Int) / 256 % 256), .int .u8 ((n : Int) / 65536 % 256), .int .u8 ((n : Int) / 16777216 % 256)] := by
    simp only [le4, cellsB, List.map_cons, List.map_nil, ofNat_toNat, Int.natCast_ediv]
    rfl
  rw [e]
  exact World.ownsRow_lit (size := 1) w _ 4 (Nat.le_refl _) (by unfold maxLen; omega) rfl

set_option maxHeartbeats 1000000 in
theorem frame_any (w : World) (oa : Option Addr) (n cap : Nat) (bs : Blk) (h : SlAt w (.slice oa n cap) (cellsB bs)) (hn : bs.length ≤ 4096) :
    Calls Tryz.prog 165 #[.slice oa n cap] w fun e w' => ∃ s, e = .returned (.tuple #[s, .int .i64 0]) ∧ w'.ownsRow w.heap.size 5 1 s (frameB bs).length (cellsB (frameB bs)) ∧ Chg (fun _ => False) w w' := by
  obtain rfl := slat_len h
  have HS := Lib.hid h
  have HN := Lib.hid hn
  have hn' : (bs.length : Int) ≤ 4096 := by omega
  have hsm : (bs.length : Int) % 4294967296 = (bs.length : Int) := by omega
  clear h hn
  go_enter Tryz.func165, Tryz.ntmps165
  obtain ⟨b, hb⟩ : ∃ b, le4 bs.length ++ bs = b := ⟨_, rfl⟩
  have hfb : frameB bs = b ++ le4 (crcF b) := by unfold frameB; rw [hb]
  have HF := Lib.hid hfb
  have HB := Lib.hid hb
  have HBl := Lib.hid (show b.length ≤ 5000 by have := HN.out; rw [← hb, List.length_append, le4_length]; omega)
  clear hb hfb
  go_wp2_with (first
    | (go_at_call 186; fail))
  refine (low_any _ bs.length (by have := HN.out; omega)).mono ?_
  rintro e w1 ⟨s1, rfl, ho1, hc1⟩
  obtain ⟨v2, w2, hr2, ho2, hg2, -⟩ := append_bytes ho1 (HS.out.kept hc1) hc1.size (by have := HN.out; rw [le4_length]; omega) 101
  rw [HB.out] at ho2
  have HR2 := Lib.hid hr2
  have HO2 := Lib.hid ho2
  have HC2 := Lib.hid (show Chg (fun _ => False) w w2 from hc1.append ho1 (Chg.refl _ _) hg2)
  obtain ⟨oa2, cap2, e2⟩ := own_slice ho2
  subst e2
  have HSum := Lib.hid (sum_any w2 _ _ _ b (SlAt.of_own ho2) (by have := HBl.out; omega))
  clear hr2 ho2 hg2 ho1 hc1
  dsimp only
  go_wp2_with (first
    | (at_builtin; refine Lib.wpList_append_run _ rfl _ _ _ _ rfl _ _ rfl rfl _ _ HR2.out ?_)
    | (go_at_call 178; refine HSum.out.mono ?_; rintro e w3 ⟨rfl, rfl⟩)
    | (go_at_call 186; fail))
  refine (low_any _ (crcF b) (crcF_lt b)).mono ?_
  rintro e w3 ⟨s3, rfl, ho3, hc3⟩
  have ho2' := own_kept HO2.out hc3
  obtain ⟨oa3, cap3, rfl⟩ := own_slice ho3
  obtain ⟨v4, w4, hr4, ho4, hg4, -⟩ := append_bytes ho2' (SlAt.of_own ho3) (HC2.out.trans' hc3).size (by have := HBl.out; rw [le4_length]; omega) 101
  have HR4 := Lib.hid hr4
  have HO4 := Lib.hid ho4
  have HC4 := Lib.hid (show Chg (fun _ => False) w w4 from (HC2.out.append HO2.out hc3 hg4))
  clear hr4 ho4 hg4 ho3 hc3 ho2'
  dsimp only
  go_wp2_with (first
    | (at_builtin; refine Lib.wpList_append_run _ rfl _ _ _ _ rfl _ _ rfl rfl _ _ HR4.out ?_))
  go_ret2
  have h5 := HO4.out
  rw [← HF.out] at h5
  exact ⟨_, rfl, h5, HC4.out⟩

end Go.Proofs.YtbjagmlbamjdbaaGreat.wals
end

section
namespace Go.Proofs.YtbjagmlbamjdbaaGreat.wals
open Go.RowKit Go.My disks bufs
set_option maxRecDepth 100000

theorem made_bytes (w : World) (n : Nat) (hn : n < 100) : ∃ w', (Instr.makeSlice 101 (.int .i64 (n : Int)) (.int .i64 (n : Int))).run Tryz.prog w = .ok (.slice (some ⟨w.heap.size, 0, none⟩) n n) w' ∧
    w'.ownsRow w.heap.size 5 1 (.slice (some ⟨w.heap.size, 0, none⟩) n n) n (cellsB (zeros n)) ∧ Chg (fun _ => False) w w' := by
  obtain ⟨i, hi, hz, hsz, hby⟩ := u8_parts
  obtain ⟨w', h1, h2, h3⟩ := run_makeSlice_full (P := Tryz.prog) w w.heap.size 101 5 i (.int .u8 0) 1 Tryz.underlying101 hi hz hsz .i64 .i64 n (by omega) (by rw [hby]; omega) (by unfold maxLen; omega) (Nat.le_refl _)
  refine ⟨w', h1, ?_, (Chg.of_grown h3).mono (fun i _ h => by cases h)⟩
  have : (madeCells (Value.int .u8 0).cells (n * 1)).toList = cellsB (zeros n) := by
    rw [show (Value.int IntKind.u8 0).cells = #[.int .u8 0] from rfl, toList_madeCells_one]
    simp [cellsB, zeros]
  rwa [this] at h2

def fixL (k v i : Nat) : Blk := zeros (k - i) ++ (be k v).drop (k - i)
theorem fixL_zero (k v : Nat) : fixL k v 0 = zeros k := by
  unfold fixL
  rw [Nat.sub_zero, List.drop_eq_nil_of_le (by rw [be_length]; exact Nat.le_refl _), List.append_nil]
theorem fixL_all (k v : Nat) : fixL k v k = be k v := by unfold fixL; simp [zeros]
theorem fixL_set (k v i : Nat) (h : i < k) : (fixL k v i).set (k - 1 - i) (UInt8.ofNat (v / 256 ^ i)) = fixL k v (i + 1) := by
  apply List.ext_getElem?
  intro j
  rw [List.getElem?_set]
  unfold fixL
  by_cases hj : k - 1 - i = j
  · subst hj
    rw [if_pos rfl, if_pos (by simp [zeros, be_length]; omega), List.getElem?_append_right (by simp [zeros]; omega), List.getElem?_drop]
    have hb := be_get k v (k - 1 - i) (by omega)
    rw [show k - 1 - (k - 1 - i) = i by omega] at hb
    rw [← hb]
    congr 1
    simp [zeros]; omega
  · rw [if_neg hj]
    by_cases h1 : j < k - 1 - i
    · rw [List.getElem?_append_left (by simp [zeros]; omega), List.getElem?_append_left (by simp [zeros]; omega)]
      unfold zeros
      rw [List.getElem?_replicate, List.getElem?_replicate, if_pos (by omega), if_pos (by omega)]
    · rw [List.getElem?_append_right (by simp [zeros]; omega), List.getElem?_append_right (by simp [zeros]; omega), List.getElem?_drop, List.getElem?_drop]
      congr 1
      simp [zeros]; omega

theorem cellsB_set (l : Blk) (j : Nat) (x : UInt8) : (cellsB l).set j (.int .u8 (x.toNat : Int)) = cellsB (l.set j x) := by simp [cellsB, List.map_set]

theorem fix_store {w : World} {base g cap k v i : Nat} (h : w.ownsRow base 5 1 (.slice (some ⟨g, 0, none⟩) k cap) k (cellsB (fixL k v i))) (hi : i < k) (z : Int) (hz : z = ((v / 256 ^ i % 256 : Nat) : Int)) :
    (w.setCell ⟨g, k - 1 - i, none⟩ (.int .u8 z)).ownsRow base 5 1 (.slice (some ⟨g, 0, none⟩) k cap) k (cellsB (fixL k v (i + 1))) := by
  have h1 := (h.stored (k - 1 - i) (.int .u8 z)).1
  have e : z = ((UInt8.ofNat (v / 256 ^ i)).toNat : Int) := by rw [hz, UInt8.toNat_ofNat']
  rw [e, cellsB_set, fixL_set k v i hi] at h1
  rw [e]
  exact h1

set_option maxHeartbeats 1000000 in
theorem fixed_any (w : World) (k v : Nat) (hk : k = 4 ∨ k = 8) (hv : v < 256 ^ k) :
    Calls Tryz.prog 92 #[.int .u64 (v : Int), .int .i64 (k : Int)] w fun e w' => ∃ s, e = .returned (.tuple #[s, .int .i64 0]) ∧ w'.ownsRow w.heap.size 5 1 s k (cellsB (be k v)) ∧ Chg (fun _ => False) w w' := by
  have hv64 : v < 18446744073709551616 := by
    rcases hk with rfl | rfl
    · have : (256 : Nat) ^ 4 = 4294967296 := rfl
      omega
    · have : (256 : Nat) ^ 8 = 18446744073709551616 := rfl
      omega
  obtain ⟨w1, hm, ho, hc⟩ := made_bytes w k (by omega)
  have HM := Lib.hid hm
  have HO := Lib.hid ho
  have HC := Lib.hid hc
  have HV := Lib.hid hv
  have HK := Lib.hid hk
  clear hm ho hc hv
  rcases hk with rfl | rfl
  · have hv4 : ((v : Int) / 4294967296 != 0) = false := by
      have h1 := HV.out
      have h2 : (256 : Nat) ^ 4 = 4294967296 := rfl
      have : (v : Int) / 4294967296 = 0 := by omega
      rw [this]; rfl
    go_enter Tryz.func92, Tryz.ntmps92
    go_wp2_with fail
    rw [show (Instr.makeSlice 101 (.int .i64 4) (.int .i64 4)).run Tryz.prog w = .ok (.slice (some ⟨w.heap.size, 0, none⟩) 4 4) w1 from HM.out]
    simp only [Result.andThen]
    rw [Oper.upon_value]
    go_wp2_with fail
    go_loopw [27] (fun j w' => ∃ i : Nat, j = .int .i64 i ∧ i ≤ 4 ∧ w'.ownsRow w.heap.size 5 1 (.slice (some ⟨w.heap.size, 0, none⟩) 4 4) 4 (cellsB (fixL 4 v i)) ∧ Chg (fun _ => False) w w') (fun j _ => 4 - (intOf j).toNat)
    · exact ⟨0, rfl, by omega, by rw [fixL_zero]; exact HO.out, HC.out⟩
    obtain ⟨i, rfl, hi, ho, hc⟩ := hrel
    have HO1 := Lib.hid ho
    have HC1 := Lib.hid hc
    clear ho hc
    by_cases hlt : i < 4
    · obtain ⟨x0, c0, c1⟩ : ∃ x0, wr.cell? ⟨w.heap.size, 4 - 1 - i, none⟩ = some x0 ∧ wr.frozen? ⟨w.heap.size, 4 - 1 - i, none⟩ = false := by
        obtain ⟨hx, c0, c1, -, -⟩ := own_cell HO1.out (k := 4 - 1 - i) (by omega)
        exact ⟨_, c0, c1⟩
      have hall : i = 0 ∨ i = 1 ∨ i = 2 ∨ i = 3 := by omega
      rcases hall with rfl | rfl | rfl | rfl
      all_goals simp only [Nat.reduceSub, Nat.sub_zero] at c0 c1
      all_goals go_wp2_with fail
      all_goals exact ⟨⟨_, by go_num, by omega, fix_store HO1.out (by omega) _ (by simp; try omega), HC1.out.setCell (fun h => absurd h (Nat.lt_irrefl _)) _⟩, by simp [intOf]⟩
    · go_wp2_with fail
      go_ret2
      obtain rfl : i = 4 := by omega
      have h1 := HO1.out
      rw [fixL_all] at h1
      exact ⟨_, rfl, h1, HC1.out⟩
  · go_enter Tryz.func92, Tryz.ntmps92
    go_wp2_with fail
    rw [show (Instr.makeSlice 101 (.int .i64 8) (.int .i64 8)).run Tryz.prog w = .ok (.slice (some ⟨w.heap.size, 0, none⟩) 8 8) w1 from HM.out]
    simp only [Result.andThen]
    rw [Oper.upon_value]
    go_wp2_with fail
    go_loopw [27] (fun j w' => ∃ i : Nat, j = .int .i64 i ∧ i ≤ 8 ∧ w'.ownsRow w.heap.size 5 1 (.slice (some ⟨w.heap.size, 0, none⟩) 8 8) 8 (cellsB (fixL 8 v i)) ∧ Chg (fun _ => False) w w') (fun j _ => 8 - (intOf j).toNat)
    · exact ⟨0, rfl, by omega, by rw [fixL_zero]; exact HO.out, HC.out⟩
    obtain ⟨i, rfl, hi, ho, hc⟩ := hrel
    have HO1 := Lib.hid ho
    have HC1 := Lib.hid hc
    clear ho hc
    by_cases hlt : i < 8
    · obtain ⟨x0, c0, c1⟩ : ∃ x0, wr.cell? ⟨w.heap.size, 8 - 1 - i, none⟩ = some x0 ∧ wr.frozen? ⟨w.heap.size, 8 - 1 - i, none⟩ = false := by
        obtain ⟨hx, c0, c1, -, -⟩ := own_cell HO1.out (k := 8 - 1 - i) (by omega)
        exact ⟨_, c0, c1⟩
      have hall : i = 0 ∨ i = 1 ∨ i = 2 ∨ i = 3 ∨ i = 4 ∨ i = 5 ∨ i = 6 ∨ i = 7 := by omega
      rcases hall with rfl | rfl | rfl | rfl | rfl | rfl | rfl | rfl
      all_goals simp only [Nat.reduceSub, Nat.sub_zero] at c0 c1
      all_goals go_wp2_with fail
      all_goals exact ⟨⟨_, by go_num, by omega, fix_store HO1.out (by omega) _ (by simp; try omega), HC1.out.setCell (fun h => absurd h (Nat.lt_irrefl _)) _⟩, by simp [intOf]⟩
    · go_wp2_with fail
      go_ret2
      obtain rfl : i = 8 := by omega
      have h1 := HO1.out
      rw [fixL_all] at h1
      exact ⟨_, rfl, h1, HC1.out⟩

set_option maxHeartbeats 1000000 in
theorem readFixed_any (w : World) (k : Nat) (hk : k = 4 ∨ k = 8) (oa : Option Addr) (n cap : Nat) (bs : Blk) (h : SlAt w (.slice oa n cap) (cellsB bs)) (hn : bs.length = k) :
    Calls Tryz.prog 150 #[.slice oa n cap, .int .i64 (k : Int)] w fun e w' => e = .returned (.tuple #[.int .u64 (ofBe bs : Int), .int .i64 0]) ∧ w = w' := by
  obtain rfl := slat_len h
  have HS := Lib.hid h
  have HN := Lib.hid hn
  have HK := Lib.hid hk
  have hk8 : k ≤ 8 := by omega
  have hk1 : 1 ≤ k := by omega
  rw [hn]
  clear h hk
  go_enter Tryz.func150, Tryz.ntmps150
  go_wp2_with fail
  go_loop [6, 19] (fun v i => ∃ m : Nat, m ≤ k ∧ i = .int .i64 m ∧ v = .int .u64 (ofBe (bs.take m) : Int)) (fun _ i => k - (intOf i).toNat)
  case atStart => exact ⟨0, Nat.zero_le _, rfl, rfl⟩
  case round =>
    obtain ⟨m, hm, rfl, rfl⟩ := hrel
    by_cases hlt : m < k
    · have hlt' : (m : Int) < (k : Int) := by omega
      obtain ⟨x, hx⟩ : ∃ x, bs[m]? = some x := ⟨bs[m]'(by have := HN.out; omega), List.getElem?_eq_getElem _⟩
      obtain ⟨b, off, hoa, hcell⟩ : ∃ b off, oa = some ⟨b, off, none⟩ ∧ w.cell? ⟨b, off + m, none⟩ = some (.int .u8 (x.toNat : Int)) := by
        obtain ⟨b, off, rfl, -, hcell⟩ := HS.out.cell (k := m) (by rw [cellsB_length]; have := HN.out; omega)
        refine ⟨b, off, rfl, ?_⟩
        rw [hcell]
        have : (cellsB bs)[m]? = some (.int .u8 (x.toNat : Int)) := by simp [cellsB, hx]
        rwa [List.getElem?_eq_getElem (by rw [cellsB_length]; have := HN.out; omega)] at this
      subst hoa
      obtain ⟨v, hv⟩ : ∃ v, ofBe (bs.take m) = v := ⟨_, rfl⟩
      have htk : ofBe (bs.take (m + 1)) = v * 256 + x.toNat := by
        rw [List.take_add_one, hx, Option.toList_some, ofBe_snoc, hv]
      have hv7 : v < 72057594037927936 := by
        rw [← hv]
        have h1 := ofBe_lt (bs.take m)
        have h2 : (256 : Nat) ^ (bs.take m).length ≤ 256 ^ 7 := Nat.pow_le_pow_right (by omega) (by rw [List.length_take]; omega)
        have h3 : (256 : Nat) ^ 7 = 72057594037927936 := rfl
        omega
      have hxl := x.toNat_lt
      have hor : bits .or .u64 ((v : Int) * 256) (x.toNat : Int) = ((v * 256 + x.toNat : Nat) : Int) := by
        have h1 := u64_or_nat (v * 256) x.toNat (by omega) (by omega)
        rw [show ((v * 256 : Nat) : Int) = (v : Int) * 256 by omega] at h1
        rw [h1]
        have h2 := Nat.shiftLeft_add_eq_or_of_lt (i := 8) (show x.toNat < 2 ^ 8 by omega) v
        rw [Nat.shiftLeft_eq] at h2
        rw [← h2]
      have HTK := Lib.hid htk
      have HOR := Lib.hid hor
      rw [hv]
      clear hv htk hx hor
      go_wp2_with fail
      exact ⟨⟨m + 1, by omega, by go_num, by rw [HOR.out, HTK.out]⟩, by simp [intOf]; omega⟩
    · go_wp2_with fail
      go_ret2
      obtain rfl : m = k := by omega
      rw [List.take_of_length_le (by have := HN.out; omega)]
      exact ⟨rfl, rfl⟩

end Go.Proofs.YtbjagmlbamjdbaaGreat.wals
end

section
namespace Go.Proofs.YtbjagmlbamjdbaaGreat.bufs
open Go.RowKit Go.My disks
set_option maxRecDepth 100000

variable {w w' : World}

def Arr (w : World) (b : Nat) (t : TypeId) (l : List Value) : Prop := w.heap[b]? = some (.cells l.toArray t (0, 0))

theorem Arr.kept {b : Nat} {t : TypeId} {l : List Value} (h : Arr w b t l) {S : Nat → Prop} (hc : Chg S w w') (hn : ¬ S b) : Arr w' b t l := hc.at h hn
theorem Arr.lt {b : Nat} {t : TypeId} {l : List Value} (h : Arr w b t l) : b < w.heap.size := lt_of_block h

theorem Arr.range {b : Nat} {t : TypeId} {l : List Value} (h : Arr w b t l) : w.rangeAt b 0 l := by
  intro j x hx
  rw [Nat.zero_add]
  exact cell_of_block h (by simpa using hx)

theorem Arr.there {b : Nat} {t : TypeId} {l : List Value} (h : Arr w b t l) : w.there b 0 l.length := by
  intro j hj
  refine ⟨?_, free_of_block h⟩
  rw [h.range j l[j] (List.getElem?_eq_getElem hj)]; rfl

theorem Arr.set {b : Nat} {t : TypeId} {l : List Value} (h : Arr w b t l) (k : Nat) (v : Value) : Arr (w.setCell ⟨b, k, none⟩ v) b t (l.set k v) := by
  have := block_setCell (i := k) (v := v) h
  simpa [Arr] using this

theorem arr_setCells {b : Nat} {t : TypeId} : ∀ (vs : List Value) (o : Nat) (w : World) (l : List Value), Arr w b t l → o + vs.length ≤ l.length → Arr (w.setCells b o vs) b t (l.take o ++ vs ++ l.drop (o + vs.length))
  | [], o, w, l, h, _ => by simpa [World.setCells] using h
  | v :: r, o, w, l, h, hl => by
    simp only [List.length_cons] at hl
    have h1 := arr_setCells r (o + 1) _ _ (h.set o v) (by rw [List.length_set]; omega)
    have e : (l.set o v).take (o + 1) ++ r ++ (l.set o v).drop (o + 1 + r.length) = l.take o ++ (v :: r) ++ l.drop (o + (v :: r).length) := by
      have e1 : (l.set o v).take (o + 1) = l.take o ++ [v] := by
        rw [List.take_set, List.take_add_one, List.getElem?_eq_getElem (by omega), Option.toList_some, List.set_append_right _ _ (by rw [List.length_take]; omega)]
        have : (l.take o).length = o := by rw [List.length_take]; omega
        rw [this, Nat.sub_self]; rfl
      rw [e1, List.drop_set_of_lt (by omega)]
      simp [Nat.add_assoc, Nat.add_comm 1]
    rw [e] at h1
    exact h1

theorem Arr.all {b : Nat} {t : TypeId} {l vs : List Value} (h : Arr w b t l) (hl : vs.length = l.length) : Arr (w.setCells b 0 vs) b t vs := by
  have h1 := arr_setCells vs 0 w l h (by omega)
  rw [Nat.zero_add, List.take_zero, List.nil_append, List.drop_eq_nil_of_le (by omega), List.append_nil] at h1
  exact h1

theorem Arr.cell {b i : Nat} {t : TypeId} {l : List Value} {v : Value} (h : Arr w b t l) (hv : l[i]? = some v) : w.cell? ⟨b, i, none⟩ = some v := cell_of_block h (by simpa using hv)
theorem Arr.free {b i : Nat} {t : TypeId} {l : List Value} (h : Arr w b t l) : w.frozen? ⟨b, i, none⟩ = false := free_of_block h
theorem Arr.new (w : World) (cs : Array Value) (t : TypeId) : Arr (w.alloc (.cells cs t)) w.heap.size t cs.toList := by unfold Arr; rw [block_alloc_new]

theorem result1 {P : Program} {fn : Func} {p : Tmp} {t : TypeId} (h : fn.results = #[.cell p t]) (tmps : Array Value) {g : Nat} (hp : tmps.getD p undef = .pointer (some ⟨g, 0, none⟩))
    {v : Value} (h1 : (loadVar t ⟨g, 0, none⟩).run P w = .ok v w) : (results fn tmps).run P w = .ok v w := by
  have hp' : tmps[p]?.getD undef = .pointer (some ⟨g, 0, none⟩) := by simpa using hp
  simp [results, h, hp', asAddr, h1]

theorem own_range {base n : Nat} {e : TypeId} {g cap : Nat} {xs : List Value} (h : w.ownsRow base e 1 (.slice (some ⟨g, 0, none⟩) n cap) n xs) : w.rangeAt g 0 xs := by
  intro j v hv
  have h1 := h.cells (g := g) rfl j v hv
  have : (⟨g, 0, none⟩ : Addr).add j = ⟨g, 0 + j, none⟩ := by unfold Addr.add; split <;> simp_all
  rwa [this] at h1

theorem own_nonnil {base n : Nat} {v : Value} {xs : Blk} (h : w.ownsRow base 5 1 v n (cellsB xs)) (hne : xs ≠ []) : ∃ g cap, v = .slice (some ⟨g, 0, none⟩) xs.length cap ∧ base ≤ g ∧ g < w.heap.size := by
  obtain rfl := own_len h
  rcases h.2 with ⟨rfl, h0⟩ | ⟨g, cap, cur, rfl, hb, hg, _⟩
  · exact absurd (List.eq_nil_of_length_eq_zero h0) hne
  · exact ⟨g, cap, rfl, hb, lt_of_block hg⟩

theorem at1 {A : Obj} : (w.alloc A).heap[w.heap.size]? = some A := block_alloc_new w A
theorem at2_0 {A B : Obj} : ((w.alloc A).alloc B).heap[w.heap.size]? = some A := (Below.heap_alloc _ _ _ (by rw [World.size_alloc]; omega)).trans at1
theorem at2_1 {A B : Obj} : ((w.alloc A).alloc B).heap[w.heap.size + 1]? = some B := by have := at1 (w := w.alloc A) (A := B); rwa [World.size_alloc] at this
theorem at3_0 {A B C : Obj} : (((w.alloc A).alloc B).alloc C).heap[w.heap.size]? = some A := (Below.heap_alloc _ _ _ (by rw [World.size_alloc, World.size_alloc]; omega)).trans at2_0
theorem at3_1 {A B C : Obj} : (((w.alloc A).alloc B).alloc C).heap[w.heap.size + 1]? = some B := (Below.heap_alloc _ _ _ (by rw [World.size_alloc, World.size_alloc]; omega)).trans at2_1
theorem at3_2 {A B C : Obj} : (((w.alloc A).alloc B).alloc C).heap[w.heap.size + 1 + 1]? = some C := by have := at1 (w := (w.alloc A).alloc B) (A := C); rwa [World.size_alloc, World.size_alloc] at this
theorem chg3 {A B C : Obj} : Chg (fun _ => False) w (((w.alloc A).alloc B).alloc C) := (((Chg.refl _ _).alloc _).alloc _).alloc _
theorem chg2 {A B : Obj} : Chg (fun _ => False) w ((w.alloc A).alloc B) := ((Chg.refl _ _).alloc _).alloc _

theorem own_of_block {base n g : Nat} {e : TypeId} {cur : Array Value} (hb : w.heap[g]? = some (.cells cur e (0, 0))) (hg : base ≤ g) (hn : cur.size = n) (hm : n ≤ maxLen) : w.ownsRow base e 1 (.slice (some ⟨g, 0, none⟩) n n) n cur.toList :=
  ⟨by simp [hn], .inr ⟨g, n, cur, rfl, hg, hb, Nat.le_refl _, hm, by omega, by rw [List.take_of_length_le (by simp [hn])]⟩⟩

theorem own_lower {base base' n : Nat} {v : Value} {e : TypeId} {xs : List Value} (h : w.ownsRow base e 1 v n xs) (hb : base' ≤ base) : w.ownsRow base' e 1 v n xs := by
  refine ⟨h.1, ?_⟩
  rcases h.2 with h2 | ⟨g, cap, cur, h1, h2, h3⟩
  · exact Or.inl h2
  · exact Or.inr ⟨g, cap, cur, h1, Nat.le_trans hb h2, h3⟩

theorem append_step {base n : Nat} {v : Value} {xs ys : Blk} {oa : Option Addr} {m cap : Nat} (h : w.ownsRow base 5 1 v n (cellsB xs)) (hs : SlAt w (.slice oa m cap) (cellsB ys)) (hb : base ≤ w.heap.size) (hl : xs.length + ys.length ≤ 140737488355328) (ty : TypeId) :
    ∃ v' w', (Builtin.append_ #[101, 101] ty #[v, .slice oa m cap]).run Tryz.prog w = .ok v' w' ∧ w'.ownsRow base 5 1 v' (xs ++ ys).length (cellsB (xs ++ ys)) ∧ Chg (fun k => base ≤ k) w w' := by
  obtain ⟨v', w', h1, h2, h3, -⟩ := append_bytes h hs hb hl ty
  exact ⟨v', w', h1, h2, (Chg.of_grown h3).mono (fun k _ hk => (h.lt k hk.symm).1)⟩

theorem zeros_step {base n : Nat} {v : Value} {xs : Blk} {k : Nat} (h : w.ownsRow base 5 1 v n (cellsB xs)) (hne : xs ≠ []) (hb : base ≤ w.heap.size) (hk : 0 < k) (hl : xs.length + k ≤ 140737488355328) (ty : TypeId) :
    ∃ v' w', (Builtin.append_ #[101, 3] ty #[v, .int .i64 (k : Int)]).run Tryz.prog w = .ok v' w' ∧ w'.ownsRow base 5 1 v' (xs ++ List.replicate k 0).length (cellsB (xs ++ List.replicate k 0)) ∧ Chg (fun k => base ≤ k) w w' := by
  obtain ⟨v', w', h1, h2, h3, -⟩ := append_zeros h hne hb hk hl ty
  exact ⟨v', w', h1, h2, (Chg.of_grown h3).mono (fun k _ hk => (h.lt k hk.symm).1)⟩

theorem slat_but {v : Value} {xs : List Value} {S : Nat → Prop} (h : SlAt w v xs) (hc : Chg S w w') (hs : ∀ g, v.ownBlock = some g → ¬ S g) : SlAt w' v xs := by
  obtain ⟨oa, cap, rfl, h2, h3⟩ := h
  refine ⟨oa, cap, rfl, h2, fun b off ho i x hx => hc.cell (h3 b off ho i x hx) ?_⟩
  subst ho
  exact hs b rfl

theorem grown_chg {row : Option Nat} (h : w.grownBy w' row) {B : Nat} (hr : ∀ g, row = some g → B ≤ g) : Chg (fun k => B ≤ k) w w' := (Chg.of_grown h).mono (fun k _ e => hr k e.symm)

theorem result_cell_tmp {P : Program} {fn : Func} {p u : Tmp} {ty : TypeId} (h : fn.results = #[.cell p ty, .tmp u]) (tmps : Array Value) {g : Nat} (hp : tmps.getD p undef = .pointer (some ⟨g, 0, none⟩))
    {v x : Value} (hv : (loadVar ty ⟨g, 0, none⟩).run P w = .ok v w) (hx : tmps.getD u undef = x) : (results fn tmps).run P w = .ok (.tuple #[v, x]) w := by
  rw [results_cell_tmp h, hp, hx]
  simp [asAddr, hv, Result.andThen_ok]

structure Stored (w w' : World) (g : Nat) (t : TypeId) (vs : List Value) : Prop where
  arr : Arr w' g t vs
  chg : Chg (· = g) w w'

theorem Arr.store {b : Nat} {t : TypeId} {l vs : List Value} (h : Arr w b t l) (hl : vs.length = l.length) : Stored w (w.setCells b 0 vs) b t vs := ⟨h.all hl, chg_setCells b vs 0 w⟩

theorem Arr.load {P : Program} {b : Nat} {t : TypeId} {l : List Value} {d : TypeDesc} (h : Arr w b t l) (hu : P.underlying t = some d) (hd : d.isRow = true) (hi : (P.info? t).map (·.size) = some l.length) : (loadVar t ⟨b, 0, none⟩).run P w = .ok (.agg l.toArray) w :=
  run_loadVar_mid (P := P) w b 0 t l d h.range hu hd hi

theorem wp_forget {P : Program} {c : Code} {Q : Exit → Act → World → Prop} {a : Act} (wr : World) (t : TypeId) (zs : List Value) (h : ∀ wz, Arr wz wr.heap.size t zs → Chg (fun _ => False) wr wz → Code.wp P c Q a wz) : Code.wp P c Q a (wr.alloc (.cells zs.toArray t)) :=
  h _ at1 ((Chg.refl _ _).alloc _)

theorem oper_copy {P : Program} {o : Oper} {a : Act} {w w' : World} {K : Act → World → Prop} {Q : Exit → Act → World → Prop} (s x : Operand) (t u : TypeId)
    (ho : o.op = .call { callee := .builtin .copy, args := #[s, x], argTypes := #[t, u] }) {v sv xv : Value} (hs : a.eval s = sv) (hx : a.eval x = xv)
    (hr : (Builtin.copy_ #[t, u] o.type #[sv, xv]).run P w = .ok v w') (h : K (a.put o.dst v) w') : Oper.wp P o a w K Q := by
  unfold Oper.wp execOp
  simp only [ho, resolve, invoke, builtin, Sem.run_bind, Sem.run_pure, Result.andThen_ok, List.map_toArray, List.map_cons, List.map_nil, hs, hx, hr]
  exact h

end Go.Proofs.YtbjagmlbamjdbaaGreat.bufs
end
