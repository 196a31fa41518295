/-
  wal: the plain model: heads, frames, what a log writes, as functions on a disk's plain state.
-/
import Derived.Test.YtbkefhoapnaciaaGreatPkAa
import Derived.Test.YtbkefhoapnaciaaGreatPkAb
import Derived.Test.YtbkefhoapnaciaaGreatPkAc
import Derived.Test.YtbkefhoapnaciaaGreatPkAd
import Derived.Lib.AppendZerosOnto
import Derived.Lib.AppendStr
import Derived.Lib.ConvBytes
import Derived.Maps.AppendAt
import Derived.Laws.BitsAll

section
set_option linter.unusedSimpArgs false
set_option linter.unusedVariables false
namespace Go.Proofs.YtbkefhoapnaciaaGreat.wals
open Go.My disks

/-! ### the sum -/
def crcStep (c : Nat) : Nat := (c / 2) ^^^ (if c % 2 = 1 then 3988292384 else 0)
def crcN : Nat → Nat → Nat
  | 0, c => c
  | k + 1, c => crcStep (crcN k c)
def crcByte (c : Nat) (x : UInt8) : Nat := crcN 8 (c ^^^ x.toNat)
def crcReg (l : List UInt8) : Nat := l.foldl crcByte 4294967295
def crcF (l : List UInt8) : Nat := 4294967295 ^^^ crcReg l

theorem crcStep_lt {c : Nat} (h : c < 4294967296) : crcStep c < 4294967296 := by
  unfold crcStep
  apply Nat.xor_lt_two_pow (n := 32)
  · omega
  · split <;> omega
theorem crcN_lt {c : Nat} (h : c < 4294967296) : ∀ k, crcN k c < 4294967296
  | 0 => h
  | k + 1 => crcStep_lt (crcN_lt h k)
theorem crcByte_lt {c : Nat} (h : c < 4294967296) (x : UInt8) : crcByte c x < 4294967296 := by
  refine crcN_lt ?_ 8
  apply Nat.xor_lt_two_pow (n := 32)
  · exact h
  · have := x.toNat_lt; omega
theorem crcReg_lt (l : List UInt8) : crcReg l < 4294967296 := by
  unfold crcReg
  have : ∀ (l : List UInt8) (c : Nat), c < 4294967296 → l.foldl crcByte c < 4294967296 := by
    intro l
    induction l with
    | nil => intro c h; exact h
    | cons x l ih => intro c h; exact ih _ (crcByte_lt h x)
  exact this l _ (by omega)
theorem crcReg_snoc (l : List UInt8) (x : UInt8) : crcReg (l ++ [x]) = crcByte (crcReg l) x := by simp [crcReg]
theorem crcF_lt (l : List UInt8) : crcF l < 4294967296 := Nat.xor_lt_two_pow (n := 32) (by omega) (crcReg_lt l)

/-! ### heads -/
def zeros (n : Nat) : Blk := List.replicate n 0
def headPre (s a u : Nat) : Blk := [86, 72, UInt8.ofNat a, 0] ++ be 8 s ++ be 4 u ++ zeros 44
def headB (s a u : Nat) : Blk := headPre s a u ++ le4 (crcF (headPre s a u))

theorem headPre_length (s a u : Nat) : (headPre s a u).length = 60 := by simp [headPre, be_length, zeros]
theorem headB_length (s a u : Nat) : (headB s a u).length = 64 := by simp [headB, headPre_length, le4_length]

/-- The head that a block has. -/
def readH (b : Blk) (pl most : Nat) : Option (Nat × Nat × Nat) :=
  if ofBe ((b.drop 4).take 8) < 1 ∨ 1152921504606846976 < ofBe ((b.drop 4).take 8) ∨ ofBe ((b.drop 4).take 8) % 2 ≠ pl ∨ 1 < (b[2]?.getD 0).toNat ∨ most < ofBe ((b.drop 12).take 4) then none
  else if headB (ofBe ((b.drop 4).take 8)) (b[2]?.getD 0).toNat (ofBe ((b.drop 12).take 4)) = b then some (ofBe ((b.drop 4).take 8), (b[2]?.getD 0).toNat, ofBe ((b.drop 12).take 4)) else none

theorem head_seq (s a u : Nat) (h : s < 18446744073709551616) : ofBe (((headB s a u).drop 4).take 8) = s := by
  have : ((headB s a u).drop 4).take 8 = be 8 s := by
    unfold headB headPre
    simp only [List.append_assoc]
    rw [List.drop_append_of_le_length (by simp), List.drop_eq_nil_of_le (by simp), List.nil_append, List.take_append_of_le_length (by simp [be_length]), List.take_of_length_le (by simp [be_length])]
  rw [this, ofBe_be]
  exact Nat.mod_eq_of_lt (by simpa using h)
theorem head_used (s a u : Nat) (h : u < 4294967296) : ofBe (((headB s a u).drop 12).take 4) = u := by
  have : ((headB s a u).drop 12).take 4 = be 4 u := by
    unfold headB headPre
    rw [show [86, 72, UInt8.ofNat a, 0] ++ be 8 s ++ be 4 u ++ zeros 44 ++ le4 (crcF ([86, 72, UInt8.ofNat a, 0] ++ be 8 s ++ be 4 u ++ zeros 44)) = ([86, 72, UInt8.ofNat a, 0] ++ be 8 s) ++ (be 4 u ++ (zeros 44 ++ le4 (crcF ([86, 72, UInt8.ofNat a, 0] ++ be 8 s ++ be 4 u ++ zeros 44)))) by simp only [List.append_assoc]]
    rw [List.drop_append_of_le_length (by simp [be_length]), List.drop_eq_nil_of_le (by simp [be_length]), List.nil_append, List.take_append_of_le_length (by simp [be_length]), List.take_of_length_le (by simp [be_length])]
  rw [this, ofBe_be]
  exact Nat.mod_eq_of_lt (by simpa using h)
theorem head_area (s a u : Nat) (h : a < 256) : ((headB s a u)[2]?.getD 0).toNat = a := by
  have : (headB s a u)[2]? = some (UInt8.ofNat a) := by simp [headB, headPre]
  rw [this]
  simp only [Option.getD_some, UInt8.toNat_ofNat']
  omega
theorem readH_head {s a u pl most : Nat} (h1 : 1 ≤ s) (h2 : s ≤ 1152921504606846976) (h3 : s % 2 = pl) (h4 : a ≤ 1) (h5 : u ≤ most) (h6 : most < 4294967296) : readH (headB s a u) pl most = some (s, a, u) := by
  unfold readH
  rw [head_seq s a u (by omega), head_used s a u (by omega), head_area s a u (by omega), if_neg (by omega), if_pos rfl]
theorem readH_zeros (pl most : Nat) : readH (zeros 64) pl most = none := by
  unfold readH
  rw [if_pos (Or.inl (by decide))]

/-! ### frames -/
def frameB (r : Blk) : Blk := le4 r.length ++ r ++ le4 (crcF (le4 r.length ++ r))
def framesB (l : List Blk) : Blk := (l.map frameB).flatten
theorem frameB_length (r : Blk) : (frameB r).length = r.length + 8 := by simp [frameB, le4_length]; omega
theorem framesB_nil : framesB [] = [] := rfl
theorem framesB_cons (r : Blk) (l : List Blk) : framesB (r :: l) = frameB r ++ framesB l := by simp [framesB]
theorem framesB_append (l m : List Blk) : framesB (l ++ m) = framesB l ++ framesB m := by simp [framesB]
def sizeB (l : List Blk) : Nat := (l.map (fun r => r.length + 8)).sum
theorem framesB_length (l : List Blk) : (framesB l).length = sizeB l := by
  induction l with
  | nil => rfl
  | cons r l ih => rw [framesB_cons, List.length_append, ih, frameB_length]; simp [sizeB]

/-- What Read says: the body, how many bytes, the error. -/
def readF (b : Blk) : Blk × Nat × Nat :=
  if b.length < 4 then ([], 0, 4)
  else if 4096 < ofLe (b.take 4) then ([], 0, 3)
  else if b.length < 8 + ofLe (b.take 4) then ([], 0, 4)
  else if ofLe ((b.drop (4 + ofLe (b.take 4))).take 4) ≠ crcF (b.take (4 + ofLe (b.take 4))) then ([], 0, 6)
  else ((b.drop 4).take (ofLe (b.take 4)), ofLe (b.take 4) + 8, 0)

/-- What All says: the bodies, how many bytes they have, the error. -/
def allN : Nat → Blk → List Blk × Nat × Nat
  | 0, _ => ([], 0, 0)
  | k + 1, b => if b = [] then ([], 0, 0) else if (readF b).2.2 ≠ 0 then ([], 0, (readF b).2.2)
    else ((readF b).1 :: (allN k (b.drop (readF b).2.1)).1, (readF b).2.1 + (allN k (b.drop (readF b).2.1)).2.1, (allN k (b.drop (readF b).2.1)).2.2)
def allF (b : Blk) : List Blk × Nat × Nat := allN b.length b

theorem readF_frame (r rest : Blk) (h : r.length ≤ 4096) : readF (frameB r ++ rest) = (r, r.length + 8, 0) := by
  have e4 : (frameB r ++ rest).take 4 = le4 r.length := by
    unfold frameB
    simp only [List.append_assoc]
    rw [List.take_append_of_le_length (by simp [le4_length]), List.take_of_length_le (by simp [le4_length])]
  have eo : ofLe (le4 r.length) = r.length := ofLe_le4 _ (by omega)
  have e1 : (frameB r ++ rest).drop 4 = r ++ (le4 (crcF (le4 r.length ++ r)) ++ rest) := by
    unfold frameB
    simp only [List.append_assoc]
    rw [List.drop_append_of_le_length (by simp [le4_length]), List.drop_eq_nil_of_le (by simp [le4_length]), List.nil_append]
  have e2 : (frameB r ++ rest).take (4 + r.length) = le4 r.length ++ r := by
    unfold frameB
    rw [List.append_assoc, List.take_append_of_le_length (by simp [le4_length]), List.take_of_length_le (by simp [le4_length])]
  have e3 : ((frameB r ++ rest).drop (4 + r.length)).take 4 = le4 (crcF (le4 r.length ++ r)) := by
    unfold frameB
    rw [List.append_assoc, List.drop_append_of_le_length (by simp [le4_length]), List.drop_eq_nil_of_le (by simp [le4_length]), List.nil_append, List.take_append_of_le_length (by simp [le4_length]), List.take_of_length_le (by simp [le4_length])]
  unfold readF
  rw [e4, eo, e3, e2, ofLe_le4 _ (crcF_lt _), e1]
  have hl := frameB_length r
  rw [if_neg (by simp only [List.length_append]; omega), if_neg (by omega), if_neg (by simp only [List.length_append]; omega), if_neg (by simp)]
  rw [List.take_append_of_le_length (Nat.le_refl _), List.take_of_length_le (Nat.le_refl _)]

theorem allN_frames (l : List Blk) (h : ∀ r ∈ l, r.length ≤ 4096) : ∀ k, l.length ≤ k → allN k (framesB l) = (l, (framesB l).length, 0) := by
  induction l with
  | nil => intro k _; cases k <;> simp [allN, framesB_nil]
  | cons r l ih =>
    intro k hk
    cases k with
    | zero => simp at hk
    | succ k =>
      have hne : framesB (r :: l) ≠ [] := by
        intro e
        have := congrArg List.length e
        rw [framesB_cons, List.length_append, frameB_length] at this
        simp at this
      rw [allN, if_neg hne, framesB_cons, readF_frame r _ (h r (by simp)), if_neg (by simp)]
      have hd : (frameB r ++ framesB l).drop (r.length + 8) = framesB l := by
        rw [← frameB_length r, List.drop_left]
      dsimp only
      rw [hd, ih (fun x hx => h x (by simp [hx])) k (by simpa using hk)]
      simp [frameB_length]
theorem sizeB_ge (l : List Blk) : l.length * 8 ≤ sizeB l := by
  induction l with
  | nil => simp [sizeB]
  | cons r l ih => simp only [sizeB, List.map_cons, List.sum_cons, List.length_cons] at *; omega
theorem allF_frames (l : List Blk) (h : ∀ r ∈ l, r.length ≤ 4096) : allF (framesB l) = (l, (framesB l).length, 0) := by
  refine allN_frames l h _ ?_
  have := sizeB_ge l
  rw [framesB_length]
  omega

/-! ### what is written -/
def chunkAt (b : Blk) (k : Nat) : Blk := (b.drop (64 * k)).take 64 ++ zeros (64 - (b.drop (64 * k)).length)
def chunks (b : Blk) : List Blk := (List.range ((b.length + 63) / 64)).map (chunkAt b)
theorem chunkAt_length (b : Blk) (k : Nat) : (chunkAt b k).length = 64 := by simp [chunkAt, zeros]; omega
theorem chunks_length (b : Blk) : (chunks b).length = (b.length + 63) / 64 := by simp [chunks]
theorem chunks_get (b : Blk) {k : Nat} (h : k < (b.length + 63) / 64) : (chunks b)[k]? = some (chunkAt b k) := by simp [chunks, h]
theorem chunkAt_get (b : Blk) (k r : Nat) (hr : r < 64) (h : 64 * k + r < b.length) : (chunkAt b k)[r]? = b[64 * k + r]? := by
  unfold chunkAt
  rw [List.getElem?_append_left (by rw [List.length_take, List.length_drop]; omega), List.getElem?_take_of_lt hr, List.getElem?_drop]

def wrBlocks (X : DV) (pl : Nat) : List Blk → Int × DV
  | [] => (0, X)
  | b :: bs => if writeC X pl b.length ≠ 0 then (writeC X pl b.length, X.write pl b) else wrBlocks (X.write pl b) (pl + 1) bs

def putH (X : DV) (s a u : Nat) : Int × DV :=
  if writeC X ((s % 2 : Nat) : Int) 64 ≠ 0 then (writeC X ((s % 2 : Nat) : Int) 64, X.write ((s % 2 : Nat) : Int) (headB s a u))
  else if flushC (X.write ((s % 2 : Nat) : Int) (headB s a u)) ≠ 0 then (flushC (X.write ((s % 2 : Nat) : Int) (headB s a u)), (X.write ((s % 2 : Nat) : Int) (headB s a u)).flush)
  else (0, (X.write ((s % 2 : Nat) : Int) (headB s a u)).flush)

def layF (X : DV) (pl : Nat) (b : Blk) (s a u : Nat) : Int × DV :=
  if (wrBlocks X pl (chunks b)).1 ≠ 0 then wrBlocks X pl (chunks b)
  else if flushC (wrBlocks X pl (chunks b)).2 ≠ 0 then (flushC (wrBlocks X pl (chunks b)).2, (wrBlocks X pl (chunks b)).2.flush)
  else putH (wrBlocks X pl (chunks b)).2.flush s a u

/-! ### the log -/
structure LV where
  seq : Nat
  area : Nat
  used : Nat
  recs : List Blk
  tail : Blk
  wait : List Blk
  more : Nat
  lost : Bool

def areaN (n : Nat) : Nat := (n - 2) / 2
def firstN (n a : Nat) : Nat := 2 + a * areaN n
def roomF (n : Nat) (V : LV) : Int := 64 * (areaN n : Int) - V.used - V.more

def addF (n : Nat) (V : LV) (r : Blk) : Nat × LV :=
  if V.lost then (15, V) else if 4096 < r.length then (3, V) else if roomF n V < (r.length : Int) + 8 then (7, V)
  else (0, { V with wait := V.wait ++ [r], more := V.more + (r.length + 8) })

def syncF (X : DV) (V : LV) : Int × DV × LV :=
  if V.lost then (15, X, V) else if V.wait = [] then (0, X, V)
  else if (layF X (firstN X.B.length V.area + V.used / 64) (V.tail ++ framesB V.wait) (V.seq + 1) V.area (V.used + (framesB V.wait).length)).1 ≠ 0 then
    ((layF X (firstN X.B.length V.area + V.used / 64) (V.tail ++ framesB V.wait) (V.seq + 1) V.area (V.used + (framesB V.wait).length)).1, (layF X (firstN X.B.length V.area + V.used / 64) (V.tail ++ framesB V.wait) (V.seq + 1) V.area (V.used + (framesB V.wait).length)).2, { V with lost := true })
  else (0, (layF X (firstN X.B.length V.area + V.used / 64) (V.tail ++ framesB V.wait) (V.seq + 1) V.area (V.used + (framesB V.wait).length)).2,
    ⟨V.seq + 1, V.area, V.used + (framesB V.wait).length, V.recs ++ V.wait, (V.tail ++ framesB V.wait).drop ((V.tail ++ framesB V.wait).length / 64 * 64), [], 0, false⟩)

def resetF (X : DV) (V : LV) (recs : List Blk) : Int × DV × LV :=
  if V.lost then (15, X, V) else if V.wait ≠ [] then (11, X, V) else if ∃ r ∈ recs, 4096 < r.length then (3, X, V)
  else if 64 * areaN X.B.length < sizeB recs then (7, X, V)
  else if (layF X (firstN X.B.length (1 - V.area)) (framesB recs) (V.seq + 1) (1 - V.area) (framesB recs).length).1 ≠ 0 then
    ((layF X (firstN X.B.length (1 - V.area)) (framesB recs) (V.seq + 1) (1 - V.area) (framesB recs).length).1, (layF X (firstN X.B.length (1 - V.area)) (framesB recs) (V.seq + 1) (1 - V.area) (framesB recs).length).2, { V with lost := true })
  else (0, (layF X (firstN X.B.length (1 - V.area)) (framesB recs) (V.seq + 1) (1 - V.area) (framesB recs).length).2,
    ⟨V.seq + 1, 1 - V.area, (framesB recs).length, recs, (framesB recs).drop ((framesB recs).length / 64 * 64), [], V.more, false⟩)

/-- The bytes of an area, of the current blocks. -/
def bytesOf (X : DV) (f : Nat) : Nat → Blk
  | 0 => []
  | k + 1 => bytesOf X f k ++ X.cur (f + k)
def pick (h g : Option (Nat × Nat × Nat)) : Option (Nat × Nat × Nat) :=
  match h, g with
  | none, g => g
  | some h, none => some h
  | some h, some g => if h.1 < g.1 then some g else some h
def loadF (X : DV) (s a u : Nat) : Option LV :=
  if (allF ((bytesOf X (firstN X.B.length a) ((u + 63) / 64)).take u)).2.1 ≠ u then none
  else some ⟨s, a, u, (allF ((bytesOf X (firstN X.B.length a) ((u + 63) / 64)).take u)).1, ((bytesOf X (firstN X.B.length a) ((u + 63) / 64)).take u).drop (u / 64 * 64), [], 0, false⟩
def openF (X : DV) : Int × DV × Option LV :=
  if X.down then (15, X, none) else if X.B.length < 6 then (2, X, none)
  else if X.cur 0 = zeros 64 ∧ X.cur 1 = zeros 64 then
    (if (putH X 1 0 0).1 ≠ 0 then ((putH X 1 0 0).1, (putH X 1 0 0).2, none) else (0, (putH X 1 0 0).2, some ⟨1, 0, 0, [], [], [], 0, false⟩))
  else match pick (readH (X.cur 0) 0 (64 * areaN X.B.length)) (readH (X.cur 1) 1 (64 * areaN X.B.length)) with
    | none => (6, X, none)
    | some (s, a, u) => match loadF X s a u with
      | none => (6, X, none)
      | some V => (0, X, some V)

end Go.Proofs.YtbkefhoapnaciaaGreat.wals
end

/-
  byte slices of a call's own: append of bytes, of zeros; a string's bytes.
-/
section
set_option linter.unusedSimpArgs false
set_option linter.unusedVariables false
namespace Go.Proofs.YtbkefhoapnaciaaGreat.bufs
open Go.RowKit Go.My disks
set_option maxRecDepth 100000

variable {w w' : World}

theorem u8_parts : ∃ i, Tryz.prog.info? 5 = some i ∧ i.zero = some (.int .u8 0) ∧ i.size = 1 ∧ i.bytes = 1 := info_parts info_u8'

theorem own_len {base n : Nat} {v : Value} {xs : Blk} (h : w.ownsRow base 5 1 v n (cellsB xs)) : n = xs.length := by have := h.1; rw [cellsB_length] at this; omega

theorem slat_len {oa : Option Addr} {n cap : Nat} {xs : Blk} (h : SlAt w (.slice oa n cap) (cellsB xs)) : n = xs.length := by
  obtain ⟨_, _, h1, _⟩ := h
  simp only [Value.slice.injEq] at h1
  rw [h1.2.1, cellsB_length]

theorem SlAt.shape {v : Value} {xs : Blk} (h : SlAt w v (cellsB xs)) : ∃ oa cap, v = .slice oa xs.length cap := by
  obtain ⟨oa, cap, h1, _⟩ := h
  exact ⟨oa, cap, by rw [h1, cellsB_length]⟩

/-- An append of bytes to an own slice. -/
theorem append_bytes0 {base n : Nat} {v : Value} {xs ys : Blk} {oa : Option Addr} {m cap : Nat} (h : w.ownsRow base 5 1 v n (cellsB xs)) (hs : SlAt w (.slice oa m cap) (cellsB ys)) (hb : base ≤ w.heap.size) (hl : xs.length + ys.length ≤ 140737488355328) (ty : TypeId) :
    ∃ v' w', (Builtin.append_ #[76, 76] ty #[v, .slice oa m cap]).run Tryz.prog w = .ok v' w' ∧ w'.ownsRow base 5 1 v' (xs.length + ys.length) (cellsB (xs ++ ys)) ∧ w.grownBy w' v.ownBlock ∧ (v'.ownBlock = v.ownBlock ∨ v'.ownBlock = some w.heap.size) := by
  obtain ⟨i, hi, hz, hsz, hby⟩ := u8_parts
  obtain rfl := own_len h
  obtain rfl := slat_len hs
  have hx : cellsB (xs ++ ys) = cellsB xs ++ cellsB ys := by simp [cellsB]
  cases oa with
  | none =>
    have hy : ys = [] := by
      cases ys with
      | nil => rfl
      | cons y ys =>
        obtain ⟨oa', cap', h1, h2, _⟩ := hs
        obtain ⟨b, off, h3⟩ := h2 (by simp [cellsB])
        simp only [Value.slice.injEq] at h1
        rw [← h1.1] at h3; cases h3
    subst hy
    refine ⟨v, w, ?_, by rw [hx]; simpa [cellsB] using h, ⟨rfl, rfl, rfl, Nat.le_refl _, fun _ _ _ => rfl⟩, Or.inl rfl⟩
    rcases h.2 with ⟨rfl, h0⟩ | ⟨g, cap', cur, rfl, _, hg, hc, _⟩
    · simp [Builtin.append_, run_underlying Tryz.underlying76, sizeOf, typeInfo, hi, Builtin.lenOf, Builtin.firstCells]
    · simp [Builtin.append_, run_underlying Tryz.underlying76, sizeOf, typeInfo, hi, Builtin.lenOf, Builtin.firstCells, hc, storeCells]
  | some a =>
    have hcells : ∀ j u, (cellsB ys)[j]? = some u → w.cell? (a.add j) = some u := by
      intro j u hu
      obtain ⟨oa', cap', h1, h2, h3⟩ := hs
      simp only [Value.slice.injEq] at h1
      obtain ⟨b, off, h4⟩ := h2 (by intro e; rw [e] at hu; simp at hu)
      have h5 := h3 b off h4 j u hu
      rw [← h1.1] at h4
      cases h4
      have : (⟨b, off, none⟩ : Addr).add j = ⟨b, off + j, none⟩ := by unfold Addr.add; split <;> simp_all
      rw [this]; exact h5
    obtain ⟨v', w', h1, h2, h3, -, h4⟩ := run_append_own_at (P := Tryz.prog) w base 76 ty 5 i (.int .u8 0) 1 1 Tryz.underlying76 hi hz hsz hby rfl (by decide) v xs.length (cellsB xs) h a ys.length cap (cellsB ys) (by rw [cellsB_length]; omega) hcells (one_cellsB ys) (by unfold maxLen; omega) (by omega) hb
    exact ⟨v', w', h1, by rw [hx]; exact h2, h3, h4⟩

/-- An append of zeros (gc's append of make). -/
theorem append_zeros0 {base n : Nat} {v : Value} {xs : Blk} {k : Nat} (h : w.ownsRow base 5 1 v n (cellsB xs)) (hne : xs ≠ []) (hb : base ≤ w.heap.size) (hk : 0 < k) (hl : xs.length + k ≤ 140737488355328) (ty : TypeId) :
    ∃ v' w', (Builtin.append_ #[76, 3] ty #[v, .int .i64 (k : Int)]).run Tryz.prog w = .ok v' w' ∧ w'.ownsRow base 5 1 v' (xs.length + k) (cellsB (xs ++ List.replicate k 0)) ∧ w.grownBy w' v.ownBlock ∧ (v'.ownBlock = v.ownBlock ∨ v'.ownBlock = some w.heap.size) := by
  obtain ⟨i, hi, hz, hsz, hby⟩ := u8_parts
  obtain rfl := own_len h
  have hx : cellsB (xs ++ List.replicate k 0) = cellsB xs ++ List.replicate k (.int .u8 0) := by simp [cellsB]
  have hzc : ∀ q, (Builtin.zeroCells (Value.int .u8 0).cells q).toList = List.replicate q (.int .u8 0) := by
    intro q
    apply List.ext_getElem?
    intro j
    by_cases hj : j < q <;> simp [Builtin.zeroCells, Value.cells, hj, Nat.mod_one]
  have hlen : (cellsB xs ++ List.replicate k (Value.int .u8 0)).length = (xs.length + k) * 1 := by simp [cellsB_length]
  rcases h.2 with ⟨rfl, h0⟩ | ⟨g, cap, cur, rfl, hbg, hg, hnc, hcm, hcs, htake⟩
  · exact absurd (List.eq_nil_of_length_eq_zero h0) hne
  · by_cases hroom : xs.length + k ≤ cap
    · have hfit : xs.length + (List.replicate k (Value.int .u8 0)).length ≤ cur.size := by simp; omega
      have hst := run_storeCells_at Tryz.prog g xs.length 5 (List.replicate k (Value.int .u8 0)) 0 cur w hg (by simpa using hfit) (by intro u hu; rw [List.eq_of_mem_replicate hu]; rfl)
      simp only [Nat.add_zero, List.length_replicate] at hst
      have hw : IntKind.i64.wrap (k : Int) = k := by rw [IntKind.wrap_i64]; omega
      have hneg : ¬ ((k : Int) < 0) := by omega
      have hk0 : k ≠ 0 := by omega
      have h48 : ¬ (281474976710656 < (k : Int)) := by omega
      obtain ⟨R, hR⟩ : ∃ R : Array Value, (cur.toList.take xs.length ++ List.replicate k (Value.int .u8 0) ++ cur.toList.drop (xs.length + k)).toArray = R := ⟨_, rfl⟩
      rw [hR] at hst
      refine ⟨.slice (some ⟨g, 0, none⟩) (xs.length + k) cap, w.setRow g R, ?_, ⟨by rw [hx]; exact hlen, .inr ⟨g, cap, R, rfl, hbg, setRow_heap w g cur R 5 _ hg, hroom, hcm, ?_, ?_⟩⟩, ⟨rfl, rfl, rfl, by simp, fun j _ hj => setRow_other w g j R (fun e => hj (by simp [Value.ownBlock, e]))⟩, Or.inl rfl⟩
      · simp [Builtin.append_, run_underlying Tryz.underlying76, run_underlying Tryz.underlying3, sizeOf, typeInfo, zeroValue, hi, hz, hsz, hby, asInt, asIntOf, hw, hneg, hk0, h48, hroom, Addr.add_lit]
        rw [hzc k, hst]
        rfl
      · rw [← hR]
        simp only [List.size_toArray, List.length_append, List.length_take, List.length_drop, Array.length_toList, List.length_replicate]
        omega
      · have : cur.toList.take xs.length = cellsB xs := by simpa using htake
        rw [← hR, hx, this]
        simp only [List.append_assoc]
        rw [← List.append_assoc, ← hlen]
        exact List.take_left
    · have holds : ∀ j u, (cellsB xs)[j]? = some u → w.cell? ((⟨g, 0, none⟩ : Addr).add j) = some u := h.cells (g := g) rfl
      have hfo := run_firstCells_some (P := Tryz.prog) w.drew i.size xs.length ⟨g, 0, none⟩ xs.length cap (cellsB xs) (by rw [cellsB_length, hsz]; omega) (by simpa using holds)
      have hr := Lib.run_append_grow_zeros (P := Tryz.prog) w 76 3 ty 5 i (.int .u8 0) .i64 .i64 Tryz.underlying76 Tryz.underlying3 hi hz (some ⟨g, 0, none⟩) xs.length cap (cellsB xs) hfo k hk (by omega) (by omega) (by omega) (by rw [hby]; omega) (growslice_fits (by omega) (by rw [hby]; omega))
      refine ⟨_, _, hr, ⟨by rw [hx]; exact hlen, .inr ⟨w.heap.size, _, _, rfl, hb, heap_alloc_new w.drew _, grownCap_ge w _ _ _, grownCap_le_maxLen w _ _ _ (by unfold maxLen; omega), ?_, ?_⟩⟩, ⟨rfl, rfl, rfl, by simp, fun j hj _ => Below.heap_alloc _ _ _ hj⟩, Or.inr rfl⟩
      · have := grownCap_ge w (xs.length + k) cap 5
        simp only [Array.size_append, List.size_toArray, size_zeroCells, Value.cells, cellsB_length, List.size_toArray, List.length_cons, List.length_nil]
        omega
      · simp only [Array.toList_append, hzc]
        rw [hx, ← hlen]
        exact List.take_left

theorem append_bytes {base n : Nat} {v : Value} {xs ys : Blk} {oa : Option Addr} {m cap : Nat} (h : w.ownsRow base 5 1 v n (cellsB xs)) (hs : SlAt w (.slice oa m cap) (cellsB ys)) (hb : base ≤ w.heap.size) (hl : xs.length + ys.length ≤ 140737488355328) (ty : TypeId) :
    ∃ v' w', (Builtin.append_ #[76, 76] ty #[v, .slice oa m cap]).run Tryz.prog w = .ok v' w' ∧ w'.ownsRow base 5 1 v' (xs ++ ys).length (cellsB (xs ++ ys)) ∧ w.grownBy w' v.ownBlock ∧ (v'.ownBlock = v.ownBlock ∨ v'.ownBlock = some w.heap.size) := by
  rw [List.length_append]; exact append_bytes0 h hs hb hl ty

theorem append_zeros {base n : Nat} {v : Value} {xs : Blk} {k : Nat} (h : w.ownsRow base 5 1 v n (cellsB xs)) (hne : xs ≠ []) (hb : base ≤ w.heap.size) (hk : 0 < k) (hl : xs.length + k ≤ 140737488355328) (ty : TypeId) :
    ∃ v' w', (Builtin.append_ #[76, 3] ty #[v, .int .i64 (k : Int)]).run Tryz.prog w = .ok v' w' ∧ w'.ownsRow base 5 1 v' (xs ++ List.replicate k 0).length (cellsB (xs ++ List.replicate k 0)) ∧ w.grownBy w' v.ownBlock ∧ (v'.ownBlock = v.ownBlock ∨ v'.ownBlock = some w.heap.size) := by
  rw [List.length_append, List.length_replicate]; exact append_zeros0 h hne hb hk hl ty

/-- The bytes of a string, in a new block. -/
theorem string_bytes (w : World) (s : ByteArray) : ∃ v w', (convert 9 76 (.string s)).run Tryz.prog w = .ok v w' ∧ SlAt w' v (cellsB s.data.toList) ∧ Chg (fun _ => False) w w' ∧ (∃ g cap, v = .slice (some ⟨g, 0, none⟩) s.size cap ∧ w.heap.size ≤ g) := by
  refine ⟨_, _, Lib.run_convert_string_bytes (P := Tryz.prog) w 9 76 5 s Tryz.underlying9 Tryz.underlying76 Tryz.underlying5, ?_, ?_, ⟨w.heap.size, _, rfl, Nat.le_refl _⟩⟩
  · have hsl : (cellsB s.data.toList).length = s.size := by rw [cellsB_length]; rfl
    refine ⟨some ⟨w.heap.size, 0, none⟩, _, by rw [hsl], fun _ => ⟨_, _, rfl⟩, fun b off ho i x hx => ?_⟩
    cases ho
    have hi : i < s.size := by have := (List.getElem?_eq_some_iff.1 hx).1; rw [hsl] at this; exact this
    rw [Nat.zero_add, Lib.bytesWorld_cell w _ s i hi]
    have : i < s.data.toList.length := hi
    simp only [cellsB, List.getElem?_map, List.getElem?_eq_getElem this, Option.map_some, Option.some.injEq] at hx
    rw [← hx]
    simp [List.getD, List.getElem?_eq_getElem this]
  · exact ⟨rfl, rfl, rfl, by rw [Lib.bytesWorld_size]; omega, fun k hk _ => Lib.bytesWorld_at_old w _ s k hk⟩

end Go.Proofs.YtbkefhoapnaciaaGreat.bufs
end

/-
  crc: the walks.
-/
section
set_option linter.unusedSimpArgs false
set_option linter.unusedVariables false
namespace Go.Proofs.YtbkefhoapnaciaaGreat.wals
open Go.RowKit Go.My disks bufs
set_option maxRecDepth 100000

theorem crc_step_bits (c : Nat) (h : c < 4294967296) : bits .xor .u32 ((c : Int) / 2) (bits .and .u32 3988292384 (-(bits .and .u32 (c : Int) 1) % 4294967296)) = ((crcStep c : Nat) : Int) := by
  have h1 : bits .and .u32 (c : Int) 1 = ((c % 2 : Nat) : Int) := by
    have := u32_and_nat c 1 h (by omega)
    rw [show ((1 : Nat) : Int) = 1 from rfl] at this
    rw [this, Nat.and_one_is_mod]
  rw [h1]
  have h2 : (c : Int) / 2 = ((c / 2 : Nat) : Int) := by omega
  rw [h2]
  unfold crcStep
  rcases Nat.mod_two_eq_zero_or_one c with e | e
  · rw [e, if_neg (by omega)]
    have h3 : (-((0 : Nat) : Int)) % 4294967296 = ((0 : Nat) : Int) := rfl
    rw [h3]
    have h4 := u32_and_nat 3988292384 0 (by omega) (by omega)
    rw [show ((3988292384 : Nat) : Int) = 3988292384 from rfl] at h4
    rw [h4, u32_xor_nat _ _ (by omega) (by simp)]
    simp
  · rw [e, if_pos rfl]
    have h3 : (-((1 : Nat) : Int)) % 4294967296 = ((4294967295 : Nat) : Int) := rfl
    rw [h3]
    have h4 := u32_and_nat 3988292384 4294967295 (by omega) (by omega)
    rw [show ((3988292384 : Nat) : Int) = 3988292384 from rfl] at h4
    rw [h4, show 3988292384 &&& 4294967295 = 3988292384 by decide, u32_xor_nat _ _ (by omega) (by omega)]

theorem crc_byte_bits (c : Nat) (h : c < 4294967296) (x : UInt8) : bits .xor .u32 (c : Int) (x.toNat : Int) = ((c ^^^ x.toNat : Nat) : Int) := u32_xor_nat _ _ h (by have := x.toNat_lt; omega)

set_option maxHeartbeats 1000000 in
theorem more_any (w : World) (oa : Option Addr) (n cap : Nat) (bs : Blk) (h : SlAt w (.slice oa n cap) (cellsB bs)) (hn : bs.length ≤ 1000000000) :
    Calls Tryz.prog 115 #[.int .u32 0, .slice oa n cap] w fun e w' => e = .returned (.int .u32 (crcF bs : Int)) ∧ w = w' := by
  obtain rfl := slat_len h
  have HS := Lib.hid h
  have HN := Lib.hid hn
  clear h hn
  obtain ⟨c0, hc0⟩ : ∃ c0, crcReg (bs.take 0) = c0 := ⟨_, rfl⟩
  have hx0 : bits .xor .u32 IntKind.u32.max 0 = (c0 : Int) := by
    have := u32_xor_nat 4294967295 0 (by omega) (by omega)
    rw [show IntKind.u32.max = ((4294967295 : Nat) : Int) from rfl, show (0 : Int) = ((0 : Nat) : Int) from rfl, this, ← hc0]
    simp [crcReg]
  have HX0 := Lib.hid hx0
  have HC0 := Lib.hid hc0
  clear hx0 hc0
  go_enter Tryz.func115, Tryz.ntmps115
  go_wp2_with fail
  rw [HX0.out]
  go_loop [5, 12] (fun c i => ∃ k : Nat, k ≤ bs.length ∧ i = .int .i64 k ∧ c = .int .u32 (crcReg (bs.take k) : Int)) (fun _ i => bs.length - (intOf i).toNat)
  case atStart => exact ⟨0, Nat.zero_le _, rfl, by rw [HC0.out]⟩
  case round =>
    obtain ⟨k, hk, rfl, rfl⟩ := hrel
    have hN := HN.out
    by_cases hlt : k < bs.length
    · have hlt' : (k : Int) < (bs.length : Int) := by omega
      obtain ⟨x, hx⟩ : ∃ x, bs[k]? = some x := ⟨bs[k], List.getElem?_eq_getElem hlt⟩
      obtain ⟨b, off, rfl, -, hcell⟩ := HS.out.cell (k := k) (by rw [cellsB_length]; exact hlt)
      have hv : (cellsB bs)[k]'(by rw [cellsB_length]; exact hlt) = .int .u8 (x.toNat : Int) := by
        have : (cellsB bs)[k]? = some (.int .u8 (x.toNat : Int)) := by simp [cellsB, hx]
        rw [List.getElem?_eq_getElem (by rw [cellsB_length]; exact hlt)] at this
        exact Option.some.inj this
      rw [hv] at hcell
      have hr := crcReg_lt (bs.take k)
      obtain ⟨c, hc⟩ : ∃ c, crcReg (bs.take k) = c := ⟨_, rfl⟩
      have htk : crcReg (bs.take (k + 1)) = crcByte c x := by
        rw [List.take_add_one, hx, Option.toList_some, crcReg_snoc, hc]
      rw [hc] at hr ⊢
      have hwr : (x.toNat : Int) % 4294967296 = (x.toNat : Int) := by have := x.toNat_lt; omega
      have hxb := crc_byte_bits c hr x
      have hc8 : (c ^^^ x.toNat) < 4294967296 := by
        have := x.toNat_lt
        exact Nat.xor_lt_two_pow (n := 32) hr (by omega)
      obtain ⟨e, he⟩ : ∃ e, c ^^^ x.toNat = e := ⟨_, rfl⟩
      have htk2 : crcReg (bs.take (k + 1)) = crcN 8 e := by rw [htk, ← he]; rfl
      rw [he] at hxb hc8
      have HTK := Lib.hid htk2
      have HC8 := Lib.hid hc8
      clear htk htk2 hv hx hc hr he hc8
      go_wp2_with fail
      clear hxb hwr hcell
      go_loop [5, 20] (fun c j => ∃ m : Nat, m ≤ 8 ∧ j = .int .i64 m ∧ c = .int .u32 (crcN m e : Int)) (fun _ j => 8 - (intOf j).toNat)
      case atStart => exact ⟨0, Nat.zero_le _, rfl, rfl⟩
      case round =>
        obtain ⟨m, hm, rfl, rfl⟩ := hrel
        by_cases hm8 : m < 8
        · have hm8' : (m : Int) < 8 := by omega
          have hst := crc_step_bits (crcN m e) (crcN_lt HC8.out m)
          have HST := Lib.hid hst
          clear hst
          go_wp2_with fail
          exact ⟨⟨m + 1, by omega, by go_num, by rw [HST.out]; rfl⟩, by simp [intOf]; omega⟩
        · go_wp2_with fail
          obtain rfl : m = 8 := by omega
          exact ⟨⟨k + 1, by omega, by go_num, by rw [HTK.out]⟩, by simp [intOf]; omega⟩
    · go_wp2_with fail
      go_ret
      obtain rfl : k = bs.length := by omega
      refine ⟨?_, rfl⟩
      have hm : bits .xor .u32 IntKind.u32.max (crcReg bs : Int) = (crcF bs : Int) := by
        rw [show IntKind.u32.max = ((4294967295 : Nat) : Int) from rfl, u32_xor_nat _ _ (by omega) (crcReg_lt bs)]; rfl
      rw [List.take_of_length_le (Nat.le_refl _), hm]
      rfl

theorem sum_any (w : World) (oa : Option Addr) (n cap : Nat) (bs : Blk) (h : SlAt w (.slice oa n cap) (cellsB bs)) (hn : bs.length ≤ 1000000000) :
    Calls Tryz.prog 92 #[.slice oa n cap] w fun e w' => e = .returned (.int .u32 (crcF bs : Int)) ∧ w = w' := by
  have H := Lib.hid (more_any w oa n cap bs h hn)
  clear h hn
  go_enter Tryz.func92, Tryz.ntmps92
  go_wp2_with (first
    | (go_at_call 115; refine H.out.mono ?_; rintro e w1 ⟨rfl, rfl⟩))
  go_ret
  exact ⟨rfl, rfl⟩

end Go.Proofs.YtbkefhoapnaciaaGreat.wals
end

/-
  frame: low, Frame: the walks.
-/
section
set_option linter.unusedSimpArgs false
set_option linter.unusedVariables false
namespace Go.Proofs.YtbkefhoapnaciaaGreat.wals
open Go.RowKit Go.My disks bufs
set_option maxRecDepth 100000

theorem ofNat_toNat (n : Nat) : ((UInt8.ofNat n).toNat : Int) = (n : Int) % 256 := by rw [UInt8.toNat_ofNat']; omega

theorem low_any (w : World) (n : Nat) (hn : n < 4294967296) :
    Calls Tryz.prog 94 #[.int .u32 (n : Int)] w fun e w' => ∃ s, e = .returned s ∧ w'.ownsRow w.heap.size 5 1 s 4 (cellsB (le4 n)) ∧ Chg (fun _ => False) w w' := by
  have HN := Lib.hid hn
  clear hn
  go_enter Tryz.func94, Tryz.ntmps94
  go_wp2_with fail
  go_ret
  refine ⟨_, rfl, ?_, (Chg.refl _ _).alloc _⟩
  have e : cellsB (le4 n) = [.int .u8 ((n : Int) % 256), .int .u8 ((n : Int) / 256 % 256), .int .u8 ((n : Int) / 65536 % 256), .int .u8 ((n : Int) / 16777216 % 256)] := by
    simp only [le4, cellsB, List.map_cons, List.map_nil, ofNat_toNat, Int.natCast_ediv]
    rfl
  rw [e]
  exact World.ownsRow_lit (size := 1) w _ 4 (Nat.le_refl _) (by unfold maxLen; omega) rfl

set_option maxHeartbeats 1000000 in
theorem frame_any (w : World) (oa : Option Addr) (n cap : Nat) (bs : Blk) (h : SlAt w (.slice oa n cap) (cellsB bs)) (hn : bs.length ≤ 4096) :
    Calls Tryz.prog 84 #[.slice oa n cap] w fun e w' => ∃ s, e = .returned (.tuple #[s, .int .i64 0]) ∧ w'.ownsRow w.heap.size 5 1 s (frameB bs).length (cellsB (frameB bs)) ∧ Chg (fun _ => False) w w' := by
  obtain rfl := slat_len h
  have HS := Lib.hid h
  have HN := Lib.hid hn
  have hn' : (bs.length : Int) ≤ 4096 := by omega
  have hsm : (bs.length : Int) % 4294967296 = (bs.length : Int) := by omega
  clear h hn
  go_enter Tryz.func84, Tryz.ntmps84
  obtain ⟨b, hb⟩ : ∃ b, le4 bs.length ++ bs = b := ⟨_, rfl⟩
  have hfb : frameB bs = b ++ le4 (crcF b) := by unfold frameB; rw [hb]
  have HF := Lib.hid hfb
  have HB := Lib.hid hb
  have HBl := Lib.hid (show b.length ≤ 5000 by have := HN.out; rw [← hb, List.length_append, le4_length]; omega)
  clear hb hfb
  go_wp2_with (first
    | (go_at_call 94; fail))
  refine (low_any _ bs.length (by have := HN.out; omega)).mono ?_
  rintro e w1 ⟨s1, rfl, ho1, hc1⟩
  obtain ⟨v2, w2, hr2, ho2, hg2, -⟩ := append_bytes ho1 (HS.out.kept hc1) hc1.size (by have := HN.out; rw [le4_length]; omega) 76
  rw [HB.out] at ho2
  have HR2 := Lib.hid hr2
  have HO2 := Lib.hid ho2
  have HC2 := Lib.hid (show Chg (fun _ => False) w w2 from hc1.append ho1 (Chg.refl _ _) hg2)
  obtain ⟨oa2, cap2, e2⟩ := own_slice ho2
  subst e2
  have HSum := Lib.hid (sum_any w2 _ _ _ b (SlAt.of_own ho2) (by have := HBl.out; omega))
  clear hr2 ho2 hg2 ho1 hc1
  dsimp only
  go_wp2_with (first
    | (at_builtin; refine Lib.wpList_append_run _ rfl _ _ _ _ rfl _ _ rfl rfl _ _ HR2.out ?_)
    | (go_at_call 92; refine HSum.out.mono ?_; rintro e w3 ⟨rfl, rfl⟩)
    | (go_at_call 94; fail))
  refine (low_any _ (crcF b) (crcF_lt b)).mono ?_
  rintro e w3 ⟨s3, rfl, ho3, hc3⟩
  have ho2' := own_kept HO2.out hc3
  obtain ⟨oa3, cap3, rfl⟩ := own_slice ho3
  obtain ⟨v4, w4, hr4, ho4, hg4, -⟩ := append_bytes ho2' (SlAt.of_own ho3) (HC2.out.trans' hc3).size (by have := HBl.out; rw [le4_length]; omega) 76
  have HR4 := Lib.hid hr4
  have HO4 := Lib.hid ho4
  have HC4 := Lib.hid (show Chg (fun _ => False) w w4 from (HC2.out.append HO2.out hc3 hg4))
  clear hr4 ho4 hg4 ho3 hc3 ho2'
  dsimp only
  go_wp2_with (first
    | (at_builtin; refine Lib.wpList_append_run _ rfl _ _ _ _ rfl _ _ rfl rfl _ _ HR4.out ?_))
  go_ret2
  have h5 := HO4.out
  rw [← HF.out] at h5
  exact ⟨_, rfl, h5, HC4.out⟩

end Go.Proofs.YtbkefhoapnaciaaGreat.wals
end

/-
  wal: the plain law: what a log's writes leave on a disk, wherever they are cut off.
-/
section
set_option linter.unusedSimpArgs false
set_option linter.unusedVariables false
namespace Go.Proofs.YtbkefhoapnaciaaGreat.wals
open Go.My disks

structure Goes (X X' : DV) : Prop where
  fuse : X'.fuse ≤ X.fuse
  free : X.fuse = -1 → X'.fuse = -1
theorem Goes.refl (X : DV) : Goes X X := ⟨Int.le_refl _, id⟩
theorem Goes.trans {X Y Z : DV} (h : Goes X Y) (k : Goes Y Z) : Goes X Z := ⟨Int.le_trans k.fuse h.fuse, fun e => k.free (h.free e)⟩

theorem goes_burn (X : DV) : Goes X X.burn := by
  unfold DV.burn
  split
  · exact ⟨Int.le_refl _, id⟩
  · constructor
    · show (if 0 < X.fuse then X.fuse - 1 else X.fuse) ≤ X.fuse
      split <;> omega
    · intro e
      show (if 0 < X.fuse then X.fuse - 1 else X.fuse) = -1
      rw [if_neg (by omega)]; exact e

theorem wr_one {X : DV} {i : Nat} {b : Blk} (h : X.down = false) (hi : i < X.B.length) (hb : b.length = 64) :
    Goes X (X.write (i : Int) b) ∧ (X.write (i : Int) b).B = X.B ∧
    ((writeC X (i : Int) b.length = 0 ∧ (X.write (i : Int) b).down = false ∧ ∀ j, (X.write (i : Int) b).L j = if j = i then X.L j ++ [b] else X.L j) ∨
     (writeC X (i : Int) b.length = 15 ∧ X.fuse = 0 ∧ (X.write (i : Int) b).down = true ∧ ∀ j, (X.write (i : Int) b).L j = X.L j)) := by
  have ha : askedC X (i : Int) = 0 := by unfold askedC; rw [h]; simp; omega
  by_cases hf : X.fuse = 0
  · have e1 : X.write (i : Int) b = X.burn := by unfold DV.write; rw [if_neg (by simp [ha, hb]), if_pos hf]
    rw [e1]
    have e2 : X.burn = { X with down := true } := by unfold DV.burn; rw [if_pos hf]
    refine ⟨goes_burn X, by rw [e2], Or.inr ⟨?_, hf, by rw [e2], fun j => by rw [e2]⟩⟩
    unfold writeC; rw [if_neg (by simp [ha]), if_neg (by simp [hb]), if_pos hf]
  · have e1 : X.write (i : Int) b = X.burn.put i b := by unfold DV.write; rw [if_neg (by simp [ha, hb]), if_neg hf, Int.toNat_natCast]
    rw [e1]
    have e2 : X.burn.down = false := by unfold DV.burn; rw [if_neg hf]; exact h
    refine ⟨⟨(goes_burn X).fuse, (goes_burn X).free⟩, burn_B X, Or.inl ⟨?_, e2, fun j => ?_⟩⟩
    · unfold writeC; rw [if_neg (by simp [ha]), if_neg (by simp [hb]), if_neg hf]
    · show (if j = i then X.burn.L j ++ [b] else X.burn.L j) = _
      rw [burn_L]

theorem fl_one {X : DV} (h : X.down = false) :
    Goes X X.flush ∧
    ((flushC X = 0 ∧ X.flush.down = false ∧ (∀ j, X.flush.L j = []) ∧ X.flush.B = (List.range X.B.length).map X.cur) ∨
     (flushC X = 15 ∧ X.fuse = 0 ∧ X.flush.down = true ∧ (∀ j, X.flush.L j = X.L j) ∧ X.flush.B = X.B)) := by
  by_cases hf : X.fuse = 0
  · have e1 : X.flush = X.burn := by unfold DV.flush; rw [if_neg (by simp [h]), if_pos hf]
    have e2 : X.burn = { X with down := true } := by unfold DV.burn; rw [if_pos hf]
    refine ⟨by rw [e1]; exact goes_burn X, Or.inr ⟨?_, hf, by rw [e1, e2], fun j => by rw [e1, e2], by rw [e1, e2]⟩⟩
    unfold flushC; rw [if_neg (by simp [h]), if_pos hf]
  · have e1 : X.flush = X.burn.all := by unfold DV.flush; rw [if_neg (by simp [h]), if_neg hf]
    have e2 : X.burn.down = false := by unfold DV.burn; rw [if_neg hf]; exact h
    refine ⟨by rw [e1]; exact ⟨(goes_burn X).fuse, (goes_burn X).free⟩, Or.inl ⟨?_, by rw [e1]; exact e2, fun j => by rw [e1]; rfl, ?_⟩⟩
    · unfold flushC; rw [if_neg (by simp [h]), if_neg hf]
    · rw [e1]
      show (List.range X.burn.B.length).map X.burn.cur = _
      have : X.burn.cur = X.cur := by funext i; unfold DV.cur; rw [burn_B, burn_L]
      rw [burn_B, this]

theorem wrBlocks_spec : ∀ (cs : List Blk) (X : DV) (pl : Nat), X.down = false → (∀ c ∈ cs, c.length = 64) → pl + cs.length ≤ X.B.length →
    Goes X (wrBlocks X pl cs).2 ∧ (wrBlocks X pl cs).2.B = X.B ∧ ∃ m, m ≤ cs.length ∧ (∀ i, (wrBlocks X pl cs).2.L i = if pl ≤ i ∧ i < pl + m then X.L i ++ [cs[i - pl]?.getD []] else X.L i) ∧
      (((wrBlocks X pl cs).1 = 0 ∧ m = cs.length ∧ (wrBlocks X pl cs).2.down = false) ∨ ((wrBlocks X pl cs).1 = 15 ∧ (wrBlocks X pl cs).2.down = true ∧ X.fuse ≠ -1))
  | [], X, pl, h, _, _ => ⟨Goes.refl X, rfl, 0, Nat.le_refl _, fun i => by rw [if_neg (by omega)]; rfl, Or.inl ⟨rfl, rfl, h⟩⟩
  | c :: cs, X, pl, h, hc, hl => by
    have hlc := hc c (by simp)
    have hl' : pl + (cs.length + 1) ≤ X.B.length := hl
    obtain ⟨g1, b1, h1⟩ := wr_one (b := c) h (show pl < X.B.length by omega) hlc
    rcases h1 with ⟨e1, d1, l1⟩ | ⟨e1, f1, d1, l1⟩
    · have ee : wrBlocks X pl (c :: cs) = wrBlocks (X.write pl c) (pl + 1) cs := by rw [wrBlocks, if_neg (by simp [e1])]
      rw [ee]
      obtain ⟨g2, b2, m, hm, l2, h2⟩ := wrBlocks_spec cs (X.write pl c) (pl + 1) d1 (fun x hx => hc x (by simp [hx])) (by rw [b1]; omega)
      refine ⟨g1.trans g2, b2.trans b1, m + 1, by simpa using hm, fun i => ?_, ?_⟩
      · rw [l2, l1]
        by_cases hi : i = pl
        · subst hi
          rw [if_neg (by omega), if_pos rfl, if_pos (by omega)]
          simp
        · by_cases hi2 : pl + 1 ≤ i ∧ i < pl + 1 + m
          · rw [if_pos hi2, if_neg hi, if_pos (by omega), show i - pl = (i - (pl + 1)) + 1 by omega]
            simp
          · rw [if_neg hi2, if_neg hi, if_neg (by omega)]
      · rcases h2 with ⟨p1, p2, p3⟩ | ⟨p1, p2, p3⟩
        · exact Or.inl ⟨p1, by simp [p2], p3⟩
        · exact Or.inr ⟨p1, p2, fun e => p3 (g1.free e)⟩
    · have ee : wrBlocks X pl (c :: cs) = (15, X.write pl c) := by rw [wrBlocks, if_pos (by simp [e1]), e1]
      rw [ee]
      exact ⟨g1, b1, 0, Nat.zero_le _, fun i => by rw [if_neg (by omega)]; exact l1 i, Or.inr ⟨rfl, d1, by omega⟩⟩

/-! ### what a crash can leave -/
theorem keepAt_le' (keep : List Int) (k N : Nat) : keepAt keep k N ≤ N := by
  unfold keepAt
  split
  · split
    · have := Nat.mod_lt (‹Int›.toNat) (show 0 < N + 1 by omega)
      omega
    · omega
  · omega
theorem crash_mem (X : DV) (keep : List Int) {i : Nat} (hi : i < X.B.length) : (X.crash keep).B[i]? = X.B[i]? ∨ ∃ b ∈ X.L i, (X.crash keep).B[i]? = some b := by
  obtain ⟨h1, h2, h3⟩ := crash_keeps X keep hi
  by_cases h : X.L i = []
  · exact Or.inl (h2 h)
  · have h3 := h3 h
    split at h3
    · rename_i hk
      have hlt : keepAt keep (placeOf X i) (X.L i).length - 1 < (X.L i).length := by
        have : keepAt keep (placeOf X i) (X.L i).length ≤ (X.L i).length := keepAt_le' keep (placeOf X i) (X.L i).length
        have hp : 0 < (X.L i).length := by cases hL : X.L i with | nil => exact absurd hL h | cons a l => simp
        omega
      refine Or.inr ⟨(X.L i)[keepAt keep (placeOf X i) (X.L i).length - 1], List.getElem_mem hlt, ?_⟩
      rw [h3, List.getElem?_eq_getElem hlt]; rfl
    · exact Or.inl h3

theorem crash_L_nil (X : DV) (keep : List Int) (h : ∀ i, X.B.length ≤ i → X.L i = []) (i : Nat) : (X.crash keep).L i = [] := by
  by_cases hi : i < X.B.length
  · exact (crash_keeps X keep hi).1
  · have := crash_L_le X keep i
    rw [h i (by omega)] at this
    exact List.eq_nil_of_length_eq_zero (by simpa using this)

theorem crash_B_len (X : DV) (keep : List Int) : (X.crash keep).B.length = X.B.length := crashN_len X keep _
theorem crash_up (X : DV) (keep : List Int) : (X.crash keep).down = false ∧ (X.crash keep).fuse = -1 := ⟨rfl, rfl⟩

/-- Some blocks of a row are the new ones. -/
structure Part (B B' : List Blk) (pl : Nat) (cs : List Blk) : Prop where
  len : B'.length = B.length
  each : ∀ i, i < B.length → B'[i]? = B[i]? ∨ (pl ≤ i ∧ i < pl + cs.length ∧ B'[i]? = cs[i - pl]?)
/-- All of them are, and the head. -/
structure Full (B B' : List Blk) (pl : Nat) (cs : List Blk) (k : Nat) (hd : Blk) : Prop where
  len : B'.length = B.length
  head : B'[k]? = some hd
  each : ∀ i, i < B.length → i ≠ k → B'[i]? = if pl ≤ i ∧ i < pl + cs.length then cs[i - pl]? else B[i]?

structure Idle (X : DV) : Prop where
  up : X.down = false
  L : ∀ i, X.L i = []
  ge : 6 ≤ X.B.length
  le : X.B.length ≤ 4096
  w64 : ∀ b ∈ X.B, b.length = 64

theorem Idle.cur {X : DV} (h : Idle X) (i : Nat) : X.cur i = X.B[i]?.getD [] := by unfold DV.cur; rw [h.L]; rfl

theorem part_64 {B B' : List Blk} {pl : Nat} {cs : List Blk} (h : Part B B' pl cs) (hB : ∀ b ∈ B, b.length = 64) (hc : ∀ c ∈ cs, c.length = 64) : ∀ b ∈ B', b.length = 64 := by
  intro b hb
  obtain ⟨i, hi, rfl⟩ := List.getElem_of_mem hb
  have hi' : i < B.length := by rw [← h.len]; exact hi
  rcases h.each i hi' with e | ⟨_, _, e⟩
  · rw [List.getElem?_eq_getElem hi] at e
    exact hB _ (List.mem_of_getElem? e.symm)
  · rw [List.getElem?_eq_getElem hi] at e
    exact hc _ (List.mem_of_getElem? e.symm)
theorem full_64 {B B' : List Blk} {pl k : Nat} {cs : List Blk} {hd : Blk} (h : Full B B' pl cs k hd) (hB : ∀ b ∈ B, b.length = 64) (hc : ∀ c ∈ cs, c.length = 64) (hh : hd.length = 64) : ∀ b ∈ B', b.length = 64 := by
  intro b hb
  obtain ⟨i, hi, rfl⟩ := List.getElem_of_mem hb
  have hi' : i < B.length := by rw [← h.len]; exact hi
  by_cases hk : i = k
  · subst hk
    have := h.head
    rw [List.getElem?_eq_getElem hi] at this
    rw [Option.some.inj this]; exact hh
  · have e := h.each i hi' hk
    rw [List.getElem?_eq_getElem hi] at e
    split at e
    · exact hc _ (List.mem_of_getElem? e.symm)
    · exact hB _ (List.mem_of_getElem? e.symm)

/-- A head is put: whole, or cut off. -/
theorem putH_spec {X : DV} (h : X.down = false) (hL : ∀ i, X.L i = []) (hle : 2 ≤ X.B.length) (s a u : Nat) :
    Goes X (putH X s a u).2 ∧ (putH X s a u).2.B.length = X.B.length ∧
    (((putH X s a u).1 = 0 ∧ (putH X s a u).2.down = false ∧ (∀ i, (putH X s a u).2.L i = []) ∧ (putH X s a u).2.B = X.B.set (s % 2) (headB s a u)) ∨
     ((putH X s a u).1 = 15 ∧ X.fuse ≠ -1 ∧ (putH X s a u).2.down = true ∧ (putH X s a u).2.B = X.B ∧ ((∀ i, (putH X s a u).2.L i = []) ∨ (∀ i, (putH X s a u).2.L i = if i = s % 2 then [headB s a u] else [])))) := by
  have hlt : s % 2 < X.B.length := by omega
  obtain ⟨g1, b1, h1⟩ := wr_one (b := headB s a u) h hlt (headB_length s a u)
  rw [headB_length] at h1
  have h1' : (writeC X ((s % 2 : Nat) : Int) 64 = 0 ∧ (X.write ((s % 2 : Nat) : Int) (headB s a u)).down = false ∧ ∀ j, (X.write ((s % 2 : Nat) : Int) (headB s a u)).L j = if j = s % 2 then X.L j ++ [headB s a u] else X.L j) ∨
     (writeC X ((s % 2 : Nat) : Int) 64 = 15 ∧ X.fuse = 0 ∧ (X.write ((s % 2 : Nat) : Int) (headB s a u)).down = true ∧ ∀ j, (X.write ((s % 2 : Nat) : Int) (headB s a u)).L j = X.L j) := h1
  unfold putH
  generalize hX1 : X.write ((s % 2 : Nat) : Int) (headB s a u) = X1 at *
  rcases h1' with ⟨e1, d1, l1⟩ | ⟨e1, f1, d1, l1⟩
  · rw [if_neg (fun hh => hh e1)]
    obtain ⟨g2, h2⟩ := fl_one d1
    rcases h2 with ⟨e2, d2, l2, b2⟩ | ⟨e2, f2, d2, l2, b2⟩
    · rw [if_neg (by simp [e2])]
      have hb : X1.flush.B = X.B.set (s % 2) (headB s a u) := by
        rw [b2, b1]
        apply List.ext_getElem?
        intro i
        rw [List.getElem?_map, List.getElem?_set]
        by_cases hi : i < X.B.length
        · rw [List.getElem?_range hi]
          simp only [Option.map_some]
          unfold DV.cur
          rw [l1, hL, b1]
          by_cases hik : s % 2 = i
          · subst hik; simp [hi]
          · rw [if_neg (fun e => hik e.symm), if_neg hik]
            simp [hi]
        · rw [List.getElem?_eq_none (by simpa using hi), if_neg (by omega), List.getElem?_eq_none (by omega)]; rfl
      exact ⟨g1.trans g2, by rw [hb, List.length_set], Or.inl ⟨rfl, d2, l2, hb⟩⟩
    · rw [if_pos (by simp [e2])]
      refine ⟨g1.trans g2, by show X1.flush.B.length = _; rw [b2, b1], Or.inr ⟨e2, fun e => ?_, d2, b2.trans b1, Or.inr (fun i => ?_)⟩⟩
      · have := g1.free e; omega
      · show X1.flush.L i = _
        rw [l2, l1, hL]; rfl
  · rw [if_pos (by rw [e1]; decide)]
    exact ⟨g1, by show X1.B.length = _; rw [b1], Or.inr ⟨e1, by omega, d1, b1, Or.inl (fun i => by show X1.L i = _; rw [l1, hL])⟩⟩

/-- What is laid down: data, then the head: whole, or cut off anywhere. -/
theorem layF_spec {X : DV} (h : Idle X) {pl : Nat} (h2 : 2 ≤ pl) (b : Blk) (hpl : pl + (chunks b).length ≤ X.B.length) (s a u : Nat) :
    Goes X (layF X pl b s a u).2 ∧ (layF X pl b s a u).2.B.length = X.B.length ∧
    (((layF X pl b s a u).1 = 0 ∧ Idle (layF X pl b s a u).2 ∧ Full X.B (layF X pl b s a u).2.B pl (chunks b) (s % 2) (headB s a u)) ∨
     ((layF X pl b s a u).1 = 15 ∧ X.fuse ≠ -1 ∧ (layF X pl b s a u).2.down = true ∧ (∀ j, ((layF X pl b s a u).2.L j).length ≤ 1) ∧
       ∀ keep, Idle ((layF X pl b s a u).2.crash keep) ∧ (Part X.B ((layF X pl b s a u).2.crash keep).B pl (chunks b) ∨ Full X.B ((layF X pl b s a u).2.crash keep).B pl (chunks b) (s % 2) (headB s a u)))) := by
  have hc64 : ∀ c ∈ chunks b, c.length = 64 := fun c hc => by
    unfold chunks at hc
    obtain ⟨k, _, rfl⟩ := List.mem_map.1 hc
    exact chunkAt_length b k
  obtain ⟨g1, b1, m, hm, l1, h1⟩ := wrBlocks_spec (chunks b) X pl h.up hc64 hpl
  -- what a crash leaves where nothing but data waits
  have part : ∀ (Y : DV), Y.B = X.B → (∀ i, Y.L i = if pl ≤ i ∧ i < pl + m then X.L i ++ [(chunks b)[i - pl]?.getD []] else X.L i) → (∀ j, (Y.L j).length ≤ 1) ∧ ∀ keep, Idle (Y.crash keep) ∧ Part X.B (Y.crash keep).B pl (chunks b) := by
    intro Y hB hL
    have hLc : ∀ i, Y.L i = if pl ≤ i ∧ i < pl + m then [(chunks b)[i - pl]?.getD []] else [] := fun i => by
      rw [hL, h.L]; rfl
    refine ⟨fun j => by rw [hLc]; split <;> simp, fun keep => ?_⟩
    have hP : Part X.B (Y.crash keep).B pl (chunks b) := by
      refine ⟨by rw [crash_B_len, hB], fun i hi => ?_⟩
      rcases crash_mem Y keep (i := i) (by rw [hB]; exact hi) with e | ⟨x, hx, e⟩
      · exact Or.inl (by rw [e, hB])
      · rw [hLc] at hx
        split at hx
        · rename_i hr
          simp only [List.mem_singleton] at hx
          refine Or.inr ⟨hr.1, by omega, ?_⟩
          rw [e, hx, List.getElem?_eq_getElem (show i - pl < (chunks b).length by omega)]; rfl
        · simp at hx
    refine ⟨⟨rfl, fun i => crash_L_nil Y keep (fun i hi => ?_) i, by rw [crash_B_len, hB]; exact h.ge, by rw [crash_B_len, hB]; exact h.le, part_64 hP h.w64 hc64⟩, hP⟩
    rw [hLc, if_neg (by rw [hB] at hi; omega)]
  unfold layF
  rcases h1 with ⟨e1, rfl, d1⟩ | ⟨e1, d1, f1⟩
  · rw [if_neg (by simp [e1])]
    generalize hX1 : (wrBlocks X pl (chunks b)).2 = X1 at *
    obtain ⟨g2, h2'⟩ := fl_one d1
    rcases h2' with ⟨e2, d2, l2, b2⟩ | ⟨e2, f2, d2, l2, b2⟩
    · rw [if_neg (by simp [e2])]
      have hlen2 : X1.flush.B.length = X.B.length := by rw [b2, b1]; simp
      have hB2 : ∀ i, i < X.B.length → X1.flush.B[i]? = if pl ≤ i ∧ i < pl + (chunks b).length then (chunks b)[i - pl]? else X.B[i]? := by
        intro i hi
        rw [b2, b1, List.getElem?_map, List.getElem?_range hi]
        simp only [Option.map_some]
        unfold DV.cur
        rw [l1, h.L, b1]
        split
        · rename_i hr
          rw [List.getElem?_eq_getElem (show i - pl < (chunks b).length by omega)]; rfl
        · simp [hi]
      obtain ⟨g3, n3, h3⟩ := putH_spec (X := X1.flush) d2 l2 (by rw [hlen2]; have := h.ge; omega) s a u
      have full : ∀ B', B' = X1.flush.B.set (s % 2) (headB s a u) → Full X.B B' pl (chunks b) (s % 2) (headB s a u) := by
        rintro B' rfl
        have hs : s % 2 < X1.flush.B.length := by rw [hlen2]; have := h.ge; omega
        refine ⟨by rw [List.length_set, hlen2], List.getElem?_set_self hs, fun i hi hne => ?_⟩
        rw [List.getElem?_set_ne (fun e => hne e.symm)]
        exact hB2 i hi
      have p2 : Part X.B X1.flush.B pl (chunks b) := by
        refine ⟨hlen2, fun i hi => ?_⟩
        rw [hB2 i hi]
        split
        · rename_i hr; exact Or.inr ⟨hr.1, hr.2, rfl⟩
        · exact Or.inl rfl
      generalize hX2 : X1.flush = X2 at *
      rcases h3 with ⟨e3, d3, l3, b3⟩ | ⟨e3, f3, d3, b3, l3⟩
      · have hF := full _ b3
        refine ⟨(g1.trans g2).trans g3, n3.trans hlen2, Or.inl ⟨e3, ⟨d3, l3, by rw [n3, hlen2]; exact h.ge, by rw [n3, hlen2]; exact h.le, full_64 hF h.w64 hc64 (headB_length s a u)⟩, hF⟩⟩
      · refine ⟨(g1.trans g2).trans g3, n3.trans hlen2, Or.inr ⟨e3, fun e => f3 ((g1.trans g2).free e), d3, fun j => ?_, fun keep => ?_⟩⟩
        · rcases l3 with l3 | l3
          · rw [l3]; simp
          · rw [l3]; split <;> simp
        · generalize hY : (putH X2 s a u).2 = Y at *
          have hLn : ∀ i, Y.B.length ≤ i → Y.L i = [] := fun i hi => by
            rcases l3 with l3 | l3
            · exact l3 i
            · rw [l3, if_neg]; have := h.ge; rw [n3, hlen2] at hi; omega
          have hyl : (Y.crash keep).B.length = X.B.length := by rw [crash_B_len, n3, hlen2]
          have hcase : (Y.crash keep).B = X2.B ∨ (Y.crash keep).B = X2.B.set (s % 2) (headB s a u) := by
            have hs : s % 2 < X2.B.length := by rw [hlen2]; have := h.ge; omega
            have hk := crash_mem Y keep (i := s % 2) (by rw [b3]; exact hs)
            have hoth : ∀ i, i < X2.B.length → i ≠ s % 2 → (Y.crash keep).B[i]? = X2.B[i]? := fun i hi hne => by
              rcases crash_mem Y keep (i := i) (by rw [b3]; exact hi) with e | ⟨x, hx, e⟩
              · rw [e, b3]
              · exfalso
                rcases l3 with l3 | l3
                · rw [l3] at hx; simp at hx
                · rw [l3, if_neg hne] at hx; simp at hx
            rcases hk with e | ⟨x, hx, e⟩
            · left
              apply List.ext_getElem?
              intro i
              by_cases hi : i < X2.B.length
              · by_cases hne : i = s % 2
                · rw [hne, e, b3]
                · exact hoth i hi hne
              · rw [List.getElem?_eq_none (by rw [hyl, ← hlen2]; omega), List.getElem?_eq_none (by omega)]
            · right
              have hx' : x = headB s a u := by
                rcases l3 with l3 | l3
                · rw [l3] at hx; simp at hx
                · rw [l3, if_pos rfl] at hx; simpa using hx
              subst hx'
              apply List.ext_getElem?
              intro i
              by_cases hi : i < X2.B.length
              · by_cases hne : i = s % 2
                · rw [hne, e, List.getElem?_set_self hs]
                · rw [hoth i hi hne, List.getElem?_set_ne (fun e => hne e.symm)]
              · rw [List.getElem?_eq_none (by rw [hyl, ← hlen2]; omega), List.getElem?_eq_none (by rw [List.length_set]; omega)]
          rcases hcase with e | e
          · exact ⟨⟨rfl, crash_L_nil Y keep hLn, by rw [hyl]; exact h.ge, by rw [hyl]; exact h.le, by rw [e]; exact part_64 p2 h.w64 hc64⟩, Or.inl (by rw [e]; exact p2)⟩
          · have hF := full _ e
            exact ⟨⟨rfl, crash_L_nil Y keep hLn, by rw [hyl]; exact h.ge, by rw [hyl]; exact h.le, full_64 hF h.w64 hc64 (headB_length s a u)⟩, Or.inr hF⟩
    · rw [if_pos (by simp [e2])]
      obtain ⟨q1, q2⟩ := part X1.flush (b2.trans b1) (fun i => by rw [l2, l1])
      refine ⟨g1.trans g2, by show X1.flush.B.length = _; rw [b2, b1], Or.inr ⟨e2, fun e => ?_, d2, q1, fun keep => ⟨(q2 keep).1, Or.inl (q2 keep).2⟩⟩⟩
      have := g1.free e; omega
  · rw [if_pos (by simp [e1])]
    obtain ⟨q1, q2⟩ := part _ b1 l1
    exact ⟨g1, by rw [b1], Or.inr ⟨e1, f1, d1, q1, fun keep => ⟨(q2 keep).1, Or.inl (q2 keep).2⟩⟩⟩

end Go.Proofs.YtbkefhoapnaciaaGreat.wals
end

/-
  wal: the plain law: what stands on a disk is found again; a sync, a reset: whole or not at all.
-/
section
set_option linter.unusedSimpArgs false
set_option linter.unusedVariables false
namespace Go.Proofs.YtbkefhoapnaciaaGreat.wals
open Go.My disks

def Data (B : List Blk) (f : Nat) (bs : Blk) : Prop := ∀ p, p < bs.length → (B[f + p / 64]?.getD [])[p % 64]? = bs[p]?

/-- The records stand on the disk, under a head with the number s, in the area a. -/
structure Stands (X : DV) (recs : List Blk) (s a : Nat) : Prop where
  idle : Idle X
  s1 : 1 ≤ s
  area : a ≤ 1
  short : ∀ r ∈ recs, r.length ≤ 4096
  fits : (framesB recs).length ≤ 64 * areaN X.B.length
  head : X.B[s % 2]? = some (headB s a (framesB recs).length)
  other : X.B[1 - s % 2]? = some (zeros 64) ∨ ∃ a' u', X.B[1 - s % 2]? = some (headB (s - 1) a' u') ∧ 2 ≤ s ∧ a' ≤ 1 ∧ u' ≤ 64 * areaN X.B.length
  data : Data X.B (firstN X.B.length a) (framesB recs)

/-- Nothing was ever laid. -/
structure Blank (X : DV) : Prop where
  idle : Idle X
  x : X.B[0]? = some (zeros 64)
  y : X.B[1]? = some (zeros 64)

def logV (recs : List Blk) (s a : Nat) : LV := ⟨s, a, (framesB recs).length, recs, (framesB recs).drop ((framesB recs).length / 64 * 64), [], 0, false⟩

theorem areaN_le {n : Nat} (h : n ≤ 4096) : areaN n ≤ 2047 := by unfold areaN; omega
theorem area_in {n a : Nat} (h6 : 6 ≤ n) (ha : a ≤ 1) : firstN n a + areaN n ≤ n ∧ 2 ≤ firstN n a := by
  unfold firstN areaN
  have : a = 0 ∨ a = 1 := by omega
  rcases this with rfl | rfl <;> omega
theorem area_apart {n : Nat} : firstN n 0 + areaN n = firstN n 1 := by unfold firstN; omega

theorem headB_ne (s a u : Nat) : headB s a u ≠ zeros 64 := by
  intro e
  have := congrArg (fun l : Blk => l[0]?) e
  simp [headB, headPre, zeros] at this

theorem bytesOf_length {X : DV} (h : Idle X) (f : Nat) : ∀ k, f + k ≤ X.B.length → (bytesOf X f k).length = 64 * k
  | 0, _ => rfl
  | k + 1, hk => by
    rw [bytesOf, List.length_append, bytesOf_length h f k (by omega), h.cur, List.getElem?_eq_getElem (show f + k < X.B.length by omega)]
    simp only [Option.getD_some]
    rw [h.w64 _ (List.getElem_mem _)]; omega
theorem bytesOf_get {X : DV} (h : Idle X) (f : Nat) : ∀ k, f + k ≤ X.B.length → ∀ p, p < 64 * k → (bytesOf X f k)[p]? = (X.B[f + p / 64]?.getD [])[p % 64]?
  | 0, _, p, hp => by omega
  | k + 1, hk, p, hp => by
    rw [bytesOf]
    by_cases hlt : p < 64 * k
    · rw [List.getElem?_append_left (by rw [bytesOf_length h f k (by omega)]; exact hlt)]
      exact bytesOf_get h f k (by omega) p hlt
    · rw [List.getElem?_append_right (by rw [bytesOf_length h f k (by omega)]; omega), bytesOf_length h f k (by omega), h.cur, show p / 64 = k by omega, show p - 64 * k = p % 64 by omega]

theorem data_read {X : DV} (h : Idle X) {f : Nat} {bs : Blk} (hd : Data X.B f bs) (hf : f + (bs.length + 63) / 64 ≤ X.B.length) : (bytesOf X f ((bs.length + 63) / 64)).take bs.length = bs := by
  apply List.ext_getElem?
  intro p
  by_cases hp : p < bs.length
  · rw [List.getElem?_take_of_lt hp, bytesOf_get h f _ hf p (by omega), hd p hp]
  · rw [List.getElem?_eq_none (by rw [List.length_take]; omega), List.getElem?_eq_none (by omega)]

theorem Stands.load {X : DV} {recs : List Blk} {s a : Nat} (h : Stands X recs s a) : loadF X s a (framesB recs).length = some (logV recs s a) := by
  have hi := area_in h.idle.ge h.area
  have hf := h.fits
  unfold loadF
  rw [data_read h.idle h.data (by omega), allF_frames recs h.short, if_neg (by simp)]
  rfl

/-- What stands is found, and only read. -/
theorem Stands.opens {X : DV} {recs : List Blk} {s a : Nat} (h : Stands X recs s a) (hs : s ≤ 1152921504606846976) : openF X = (0, X, some (logV recs s a)) := by
  have hl := h.load
  have hm : 64 * areaN X.B.length < 4294967296 := by have := areaN_le h.idle.le; omega
  have h1 := h.s1
  have hrd := readH_head (s := s) (a := a) (u := (framesB recs).length) (pl := s % 2) (most := 64 * areaN X.B.length) h1 hs rfl h.area h.fits hm
  have ho : readH (X.cur (1 - s % 2)) (1 - s % 2) (64 * areaN X.B.length) = none ∨ ∃ a' u', readH (X.cur (1 - s % 2)) (1 - s % 2) (64 * areaN X.B.length) = some (s - 1, a', u') := by
    rw [h.idle.cur]
    rcases h.other with e | ⟨a', u', e, h2, h3, h4⟩
    · rw [e]; exact Or.inl (readH_zeros _ _)
    · rw [e]; exact Or.inr ⟨a', u', readH_head (by omega) (by omega) (by omega) h3 h4 hm⟩
  have hc : X.cur (s % 2) = headB s a (framesB recs).length := by rw [h.idle.cur, h.head]; rfl
  have hnz : ¬ (X.cur 0 = zeros 64 ∧ X.cur 1 = zeros 64) := by
    rintro ⟨e0, e1⟩
    have : s % 2 = 0 ∨ s % 2 = 1 := by omega
    rcases this with e | e
    · rw [e, e0] at hc; exact headB_ne _ _ _ hc.symm
    · rw [e, e1] at hc; exact headB_ne _ _ _ hc.symm
  have hp : pick (readH (X.cur 0) 0 (64 * areaN X.B.length)) (readH (X.cur 1) 1 (64 * areaN X.B.length)) = some (s, a, (framesB recs).length) := by
    have : s % 2 = 0 ∨ s % 2 = 1 := by omega
    rcases this with e | e
    · rw [e] at hrd hc ho
      rw [hc, hrd]
      rcases ho with ho | ⟨a', u', ho⟩
      · rw [show X.cur 1 = X.cur (1 - 0) from rfl, show readH (X.cur (1 - 0)) 1 = readH (X.cur (1 - 0)) (1 - 0) from rfl, ho]; rfl
      · rw [show X.cur 1 = X.cur (1 - 0) from rfl, show readH (X.cur (1 - 0)) 1 = readH (X.cur (1 - 0)) (1 - 0) from rfl, ho]
        show (if s < s - 1 then _ else _) = _
        rw [if_neg (by omega)]
    · rw [e] at hrd hc ho
      rw [hc, hrd]
      rcases ho with ho | ⟨a', u', ho⟩
      · rw [show X.cur 0 = X.cur (1 - 1) from rfl, show readH (X.cur (1 - 1)) 0 = readH (X.cur (1 - 1)) (1 - 1) from rfl, ho]; rfl
      · rw [show X.cur 0 = X.cur (1 - 1) from rfl, show readH (X.cur (1 - 1)) 0 = readH (X.cur (1 - 1)) (1 - 1) from rfl, ho]
        show (if s - 1 < s then _ else _) = _
        rw [if_pos (by omega)]
  unfold openF
  rw [if_neg (by simp [h.idle.up]), if_neg (by have := h.idle.ge; omega), if_neg hnz, hp]
  dsimp only
  rw [hl]

/-- Some data blocks turn, of which the records' bytes know nothing: what stood stands. -/
theorem Stands.part {X Y : DV} {recs : List Blk} {s a pl : Nat} {cs : List Blk} (h : Stands X recs s a) (hY : Idle Y) (hP : Part X.B Y.B pl cs) (h2 : 2 ≤ pl)
    (hok : ∀ p, p < (framesB recs).length → pl ≤ firstN X.B.length a + p / 64 → firstN X.B.length a + p / 64 < pl + cs.length → (cs[firstN X.B.length a + p / 64 - pl]?.getD [])[p % 64]? = (framesB recs)[p]?) : Stands Y recs s a := by
  have hn := hP.len
  have low : ∀ k, k < 2 → Y.B[k]? = X.B[k]? := fun k hk => by
    rcases hP.each k (by have := h.idle.ge; omega) with e | ⟨e, _⟩
    · exact e
    · omega
  refine ⟨hY, h.s1, h.area, h.short, by rw [hn]; exact h.fits, by rw [low _ (by omega)]; exact h.head, ?_, fun p hp => ?_⟩
  · rw [low _ (by omega), hn]; exact h.other
  · rw [hn]
    have hi := area_in h.idle.ge h.area
    have hf := h.fits
    rcases hP.each (firstN X.B.length a + p / 64) (by omega) with e | ⟨e1, e2, e3⟩
    · rw [e]; exact h.data p hp
    · rw [e3]; exact hok p hp e1 e2

/-- The data and the head are laid: the new ones stand. -/
theorem Stands.full {X Y : DV} {recs recs2 : List Blk} {s a a2 pl : Nat} {cs : List Blk} (h : Stands X recs s a) (hY : Idle Y) (ha : a2 ≤ 1) (hsh : ∀ r ∈ recs2, r.length ≤ 4096) (hfit : (framesB recs2).length ≤ 64 * areaN X.B.length)
    (hF : Full X.B Y.B pl cs ((s + 1) % 2) (headB (s + 1) a2 (framesB recs2).length)) (h2 : 2 ≤ pl)
    (hok : ∀ p, p < (framesB recs2).length → ((if pl ≤ firstN X.B.length a2 + p / 64 ∧ firstN X.B.length a2 + p / 64 < pl + cs.length then cs[firstN X.B.length a2 + p / 64 - pl]? else X.B[firstN X.B.length a2 + p / 64]?).getD [])[p % 64]? = (framesB recs2)[p]?) :
    Stands Y recs2 (s + 1) a2 := by
  have hn := hF.len
  have h6 := h.idle.ge
  have hs1 := h.s1
  refine ⟨hY, by omega, ha, hsh, by rw [hn]; exact hfit, hF.head, Or.inr ⟨a, (framesB recs).length, ?_, by omega, h.area, by rw [hn]; exact h.fits⟩, fun p hp => ?_⟩
  · rw [hF.each _ (by omega) (by omega), if_neg (by omega), show 1 - (s + 1) % 2 = s % 2 by omega, h.head, show s + 1 - 1 = s by omega]
  · rw [hn]
    have hi := area_in h.idle.ge ha
    rw [hF.each _ (by omega) (by omega)]
    exact hok p hp

theorem Blank.first {X Y : DV} (h : Blank X) (hY : Idle Y) (hB : Y.B = X.B.set 1 (headB 1 0 0)) : Stands Y [] 1 0 := by
  have h6 := h.idle.ge
  refine ⟨hY, by omega, by omega, by simp, by simp [framesB_nil], ?_, Or.inl ?_, fun p hp => by simp [framesB_nil] at hp⟩
  · rw [hB, show 1 % 2 = 1 from rfl, List.getElem?_set_self (by omega)]; rfl
  · rw [hB, show 1 - 1 % 2 = 0 from rfl, List.getElem?_set_ne (by omega)]; exact h.x

theorem drop_data (fs : Blk) (p k : Nat) : ((fs.drop (k * 64))[p]?) = fs[64 * k + p]? := by rw [List.getElem?_drop, Nat.mul_comm]

/-- A sync of records that fit: whole, or what stood before, wherever it is cut off. -/
theorem sync_spec {X : DV} {recs wait : List Blk} {s a : Nat} (h : Stands X recs s a) (hw : ∀ r ∈ wait, r.length ≤ 4096) (hfit : (framesB (recs ++ wait)).length ≤ 64 * areaN X.B.length) :
    ∀ R, layF X (firstN X.B.length a + (framesB recs).length / 64) ((framesB recs).drop ((framesB recs).length / 64 * 64) ++ framesB wait) (s + 1) a (framesB (recs ++ wait)).length = R →
    Goes X R.2 ∧ R.2.B.length = X.B.length ∧ ((R.1 = 0 ∧ Stands R.2 (recs ++ wait) (s + 1) a) ∨
      (R.1 = 15 ∧ X.fuse ≠ -1 ∧ R.2.down = true ∧ (∀ j, (R.2.L j).length ≤ 1) ∧ ∀ keep, Stands (R.2.crash keep) recs s a ∨ Stands (R.2.crash keep) (recs ++ wait) (s + 1) a)) := by
  rintro R rfl
  obtain ⟨u, hu⟩ : ∃ u, (framesB recs).length = u := ⟨_, rfl⟩
  obtain ⟨b, hb⟩ : ∃ b, (framesB recs).drop ((framesB recs).length / 64 * 64) ++ framesB wait = b := ⟨_, rfl⟩
  have hfa : framesB (recs ++ wait) = framesB recs ++ framesB wait := framesB_append _ _
  have hlen : b.length + u / 64 * 64 = (framesB (recs ++ wait)).length := by
    rw [← hb, hfa, List.length_append, List.length_append, List.length_drop, hu]; omega
  have hbget : ∀ p, b[p]? = (framesB (recs ++ wait))[64 * (u / 64) + p]? := fun p => by
    rw [← hb, hu, hfa]
    by_cases hp : p < u - u / 64 * 64
    · rw [List.getElem?_append_left (by rw [List.length_drop, hu]; exact hp), drop_data, List.getElem?_append_left (by rw [hu]; omega)]
    · rw [List.getElem?_append_right (by rw [List.length_drop, hu]; omega), List.getElem?_append_right (by rw [hu]; omega), List.length_drop, hu]
      congr 1; omega
  have hi := area_in h.idle.ge h.area
  rw [hu, show (framesB recs).drop (u / 64 * 64) ++ framesB wait = b by rw [← hu]; exact hb]
  obtain ⟨pl, hpl⟩ : ∃ pl, firstN X.B.length a + u / 64 = pl := ⟨_, rfl⟩
  rw [hpl]
  have hcl := chunks_length b
  have hin : pl + (chunks b).length ≤ X.B.length := by rw [hcl]; omega
  obtain ⟨g, hn, hr⟩ := layF_spec h.idle (pl := pl) (by omega) b hin (s + 1) a (framesB (recs ++ wait)).length
  -- the byte of a chunk
  have hch : ∀ p, p < (framesB (recs ++ wait)).length → pl ≤ firstN X.B.length a + p / 64 → firstN X.B.length a + p / 64 < pl + (chunks b).length ∧ ((chunks b)[firstN X.B.length a + p / 64 - pl]?.getD [])[p % 64]? = (framesB (recs ++ wait))[p]? := by
    intro p hp h1
    have h3 : firstN X.B.length a + p / 64 - pl = p / 64 - u / 64 := by omega
    have h4 : p / 64 - u / 64 < (b.length + 63) / 64 := by omega
    refine ⟨by rw [hcl]; omega, ?_⟩
    rw [h3, chunks_get b h4]
    simp only [Option.getD_some]
    rw [chunkAt_get b _ _ (by omega) (by omega), hbget]
    congr 1; omega
  have hokP : ∀ p, p < (framesB recs).length → pl ≤ firstN X.B.length a + p / 64 → firstN X.B.length a + p / 64 < pl + (chunks b).length → ((chunks b)[firstN X.B.length a + p / 64 - pl]?.getD [])[p % 64]? = (framesB recs)[p]? := by
    intro p hp h1 _
    have hp2 : p < (framesB (recs ++ wait)).length := by rw [hfa, List.length_append]; omega
    rw [(hch p hp2 h1).2, hfa, List.getElem?_append_left hp]
  have hokF : ∀ p, p < (framesB (recs ++ wait)).length → ((if pl ≤ firstN X.B.length a + p / 64 ∧ firstN X.B.length a + p / 64 < pl + (chunks b).length then (chunks b)[firstN X.B.length a + p / 64 - pl]? else X.B[firstN X.B.length a + p / 64]?).getD [])[p % 64]? = (framesB (recs ++ wait))[p]? := by
    intro p hp
    by_cases h1 : pl ≤ firstN X.B.length a + p / 64
    · obtain ⟨h2, h3⟩ := hch p hp h1
      rw [if_pos ⟨h1, h2⟩]; exact h3
    · rw [if_neg (fun h => h1 h.1)]
      have hpu : p < (framesB recs).length := by omega
      rw [h.data p hpu, hfa, List.getElem?_append_left hpu]
  have hsh : ∀ r ∈ recs ++ wait, r.length ≤ 4096 := fun r hr => by
    rcases List.mem_append.1 hr with hr | hr
    · exact h.short r hr
    · exact hw r hr
  refine ⟨g, hn, ?_⟩
  rcases hr with ⟨e1, hI, hF⟩ | ⟨e1, f1, d1, q1, hk⟩
  · exact Or.inl ⟨e1, h.full hI h.area hsh hfit hF (by omega) hokF⟩
  · refine Or.inr ⟨e1, f1, d1, q1, fun keep => ?_⟩
    obtain ⟨hI, hc⟩ := hk keep
    rcases hc with hP | hF
    · exact Or.inl (h.part hI hP (by omega) hokP)
    · exact Or.inr (h.full hI h.area hsh hfit hF (by omega) hokF)

theorem reset_spec {X : DV} {recs recs2 : List Blk} {s a : Nat} (h : Stands X recs s a) (hw : ∀ r ∈ recs2, r.length ≤ 4096) (hfit : (framesB recs2).length ≤ 64 * areaN X.B.length) :
    ∀ R, layF X (firstN X.B.length (1 - a)) (framesB recs2) (s + 1) (1 - a) (framesB recs2).length = R →
    Goes X R.2 ∧ R.2.B.length = X.B.length ∧ ((R.1 = 0 ∧ Stands R.2 recs2 (s + 1) (1 - a)) ∨
      (R.1 = 15 ∧ X.fuse ≠ -1 ∧ R.2.down = true ∧ (∀ j, (R.2.L j).length ≤ 1) ∧ ∀ keep, Stands (R.2.crash keep) recs s a ∨ Stands (R.2.crash keep) recs2 (s + 1) (1 - a))) := by
  rintro R rfl
  have ha := h.area
  have hi := area_in h.idle.ge ha
  have hi2 := area_in (a := 1 - a) h.idle.ge (by omega)
  have hfo := h.fits
  have hap := area_apart (n := X.B.length)
  obtain ⟨b, hb⟩ : ∃ b, framesB recs2 = b := ⟨_, rfl⟩
  rw [hb] at hfit ⊢
  have hcl := chunks_length b
  have hin : firstN X.B.length (1 - a) + (chunks b).length ≤ X.B.length := by rw [hcl]; omega
  obtain ⟨g, hn, hr⟩ := layF_spec h.idle (pl := firstN X.B.length (1 - a)) hi2.2 b hin (s + 1) (1 - a) b.length
  have hokP : ∀ p, p < (framesB recs).length → firstN X.B.length (1 - a) ≤ firstN X.B.length a + p / 64 → firstN X.B.length a + p / 64 < firstN X.B.length (1 - a) + (chunks b).length → ((chunks b)[firstN X.B.length a + p / 64 - firstN X.B.length (1 - a)]?.getD [])[p % 64]? = (framesB recs)[p]? := by
    intro p hp h1 h2
    exfalso
    rw [hcl] at h2
    have : a = 0 ∨ a = 1 := by omega
    rcases this with rfl | rfl
    · rw [show 1 - 0 = 1 from rfl] at *; omega
    · rw [show 1 - 1 = 0 from rfl] at *; omega
  have hokF : ∀ p, p < (framesB recs2).length → ((if firstN X.B.length (1 - a) ≤ firstN X.B.length (1 - a) + p / 64 ∧ firstN X.B.length (1 - a) + p / 64 < firstN X.B.length (1 - a) + (chunks b).length then (chunks b)[firstN X.B.length (1 - a) + p / 64 - firstN X.B.length (1 - a)]? else X.B[firstN X.B.length (1 - a) + p / 64]?).getD [])[p % 64]? = (framesB recs2)[p]? := by
    rw [hb]
    intro p hp
    rw [if_pos ⟨by omega, by rw [hcl]; omega⟩, show firstN X.B.length (1 - a) + p / 64 - firstN X.B.length (1 - a) = p / 64 by omega, chunks_get b (by omega)]
    simp only [Option.getD_some]
    rw [chunkAt_get b _ _ (by omega) (by omega)]
    congr 1; omega
  refine ⟨g, hn, ?_⟩
  rcases hr with ⟨e1, hI, hF⟩ | ⟨e1, f1, d1, q1, hk⟩
  · exact Or.inl ⟨e1, h.full hI (by omega) hw (by rw [hb]; exact hfit) (by rw [hb]; exact hF) hi2.2 hokF⟩
  · refine Or.inr ⟨e1, f1, d1, q1, fun keep => ?_⟩
    obtain ⟨hI, hc⟩ := hk keep
    rcases hc with hP | hF
    · exact Or.inl (h.part hI hP hi2.2 hokP)
    · exact Or.inr (h.full hI (by omega) hw (by rw [hb]; exact hfit) (by rw [hb]; exact hF) hi2.2 hokF)

end Go.Proofs.YtbkefhoapnaciaaGreat.wals
end
