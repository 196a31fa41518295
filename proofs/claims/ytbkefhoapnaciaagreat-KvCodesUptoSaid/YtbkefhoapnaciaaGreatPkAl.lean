/-
  wal: the plain law, for logs: what Open, Add, Sync, Reset leave, over a disk on which records stand.
-/
import Derived.Test.YtbkefhoapnaciaaGreatPkAc
import Derived.Test.YtbkefhoapnaciaaGreatPkAg
import Derived.Test.YtbkefhoapnaciaaGreatPkAh
import Derived.Test.YtbkefhoapnaciaaGreatPkAk
import Derived.Lib.Strings
import Derived.SliceStrings

section
set_option linter.unusedSimpArgs false
set_option linter.unusedVariables false
namespace Go.Proofs.YtbkefhoapnaciaaGreat.wals
open Go.My disks

/-- The log of records that stand, with some that wait. -/
def lvW (recs : List Blk) (s a : Nat) (wait : List Blk) : LV := ⟨s, a, (framesB recs).length, recs, (framesB recs).drop ((framesB recs).length / 64 * 64), wait, sizeB wait, false⟩
theorem lvW_log (recs : List Blk) (s a : Nat) : lvW recs s a [] = logV recs s a := rfl

theorem Idle.crash {X : DV} (h : Idle X) (keep : List Int) : Idle (X.crash keep) ∧ (X.crash keep).B = X.B := by
  have hb : (X.crash keep).B = X.B := by
    apply List.ext_getElem?
    intro i
    by_cases hi : i < X.B.length
    · exact (crash_keeps X keep hi).2.1 (h.L i)
    · rw [List.getElem?_eq_none (by rw [crash_B_len]; omega), List.getElem?_eq_none (by omega)]
  exact ⟨⟨rfl, fun i => crash_L_nil X keep (fun i _ => h.L i) i, by rw [hb]; exact h.ge, by rw [hb]; exact h.le, by rw [hb]; exact h.w64⟩, hb⟩

theorem Stands.same {X Y : DV} {recs : List Blk} {s a : Nat} (h : Stands X recs s a) (hY : Idle Y) (hB : Y.B = X.B) : Stands Y recs s a :=
  ⟨hY, h.s1, h.area, h.short, by rw [hB]; exact h.fits, by rw [hB]; exact h.head, by rw [hB]; exact h.other, by rw [hB]; exact h.data⟩
theorem Stands.crash {X : DV} {recs : List Blk} {s a : Nat} (h : Stands X recs s a) (keep : List Int) : Stands (X.crash keep) recs s a :=
  h.same (h.idle.crash keep).1 (h.idle.crash keep).2
theorem Blank.crash {X : DV} (h : Blank X) (keep : List Int) : Blank (X.crash keep) :=
  ⟨(h.idle.crash keep).1, by rw [(h.idle.crash keep).2]; exact h.x, by rw [(h.idle.crash keep).2]; exact h.y⟩

/-- Another fuse. -/
theorem Idle.set {X : DV} (h : Idle X) (n : Int) : Idle (X.set n) ∧ (X.set n).B = X.B := by
  unfold DV.set
  split
  · exact ⟨h, rfl⟩
  · exact ⟨⟨h.up, h.L, h.ge, h.le, h.w64⟩, rfl⟩

theorem lvW_ok {X : DV} {recs wait : List Blk} {s a : Nat} (h : Stands X recs s a) (hs : s ≤ 1152921504606846976) (hw : ∀ r ∈ wait, r.length ≤ 4096) (hfit : (framesB recs).length + sizeB wait ≤ 64 * areaN X.B.length) : (lvW recs s a wait).Ok X.B.length where
  ge := h.idle.ge
  le := h.idle.le
  seq := hs
  area := h.area
  fit := hfit
  used := framesB_length recs
  more := rfl
  tail := by show ((framesB recs).drop _).length = (framesB recs).length % 64; rw [List.length_drop]; omega
  short := hw

theorem Idle.zero (n : Nat) (h1 : 6 ≤ n) (h2 : n ≤ 4096) : Idle (DV.new n) where
  up := rfl
  L := fun _ => rfl
  ge := by show 6 ≤ (List.replicate n zeroBlk).length; rw [List.length_replicate]; exact h1
  le := by show (List.replicate n zeroBlk).length ≤ 4096; rw [List.length_replicate]; exact h2
  w64 := fun b hb => by
    have : b = zeroBlk := (List.mem_replicate.1 hb).2
    rw [this]; rfl
theorem Blank.new (n : Nat) (h1 : 6 ≤ n) (h2 : n ≤ 4096) : Blank (DV.new n) := by
  refine ⟨Idle.zero n h1 h2, ?_, ?_⟩
  · show (List.replicate n zeroBlk)[0]? = _
    rw [List.getElem?_replicate, if_pos (by omega)]; rfl
  · show (List.replicate n zeroBlk)[1]? = _
    rw [List.getElem?_replicate, if_pos (by omega)]; rfl
theorem Blank.cur {X : DV} (h : Blank X) : X.cur 0 = zeros 64 ∧ X.cur 1 = zeros 64 := by
  rw [h.idle.cur, h.idle.cur, h.x, h.y]; exact ⟨rfl, rfl⟩

/-- Open of a blank disk: an empty log, or cut off. -/
theorem blank_open {X : DV} (h : Blank X) : ∀ R, openF X = R → Goes X R.2.1 ∧ R.2.1.B.length = X.B.length ∧
    ((R.1 = 0 ∧ R.2.2 = some (lvW [] 1 0 []) ∧ Stands R.2.1 [] 1 0) ∨
     (R.1 = 15 ∧ R.2.2 = none ∧ X.fuse ≠ -1 ∧ R.2.1.down = true ∧ (∀ j, (R.2.1.L j).length ≤ 1) ∧ ∀ keep, Blank (R.2.1.crash keep) ∨ Stands (R.2.1.crash keep) [] 1 0)) := by
  rintro R rfl
  have h6 := h.idle.ge
  obtain ⟨g, hl, hp⟩ := putH_spec h.idle.up h.idle.L (by omega) 1 0 0
  have ho : openF X = if (putH X 1 0 0).1 ≠ 0 then ((putH X 1 0 0).1, (putH X 1 0 0).2, none) else (0, (putH X 1 0 0).2, some ⟨1, 0, 0, [], [], [], 0, false⟩) := by
    unfold openF
    rw [if_neg (by simp [h.idle.up]), if_neg (by omega), if_pos h.cur]
  have w64 : ∀ (B : List Blk), B = X.B.set 1 (headB 1 0 0) → ∀ b ∈ B, b.length = 64 := by
    rintro B rfl b hb
    rcases List.mem_or_eq_of_mem_set hb with hb | rfl
    · exact h.idle.w64 b hb
    · exact headB_length _ _ _
  rcases hp with ⟨e, d, l, b⟩ | ⟨e, f, d, b, l⟩
  · rw [ho, if_neg (by simp [e])]
    refine ⟨g, hl, Or.inl ⟨rfl, rfl, h.first ⟨d, l, by rw [hl]; exact h6, by rw [hl]; exact h.idle.le, w64 _ b⟩ b⟩⟩
  · rw [ho, if_pos (by simp [e])]
    refine ⟨g, hl, Or.inr ⟨e, rfl, f, d, fun j => ?_, fun keep => ?_⟩⟩
    · rcases l with l | l
      · show ((putH X 1 0 0).2.L j).length ≤ 1; rw [l]; simp
      · show ((putH X 1 0 0).2.L j).length ≤ 1; rw [l]; split <;> simp
    · show Blank ((putH X 1 0 0).2.crash keep) ∨ Stands ((putH X 1 0 0).2.crash keep) [] 1 0
      generalize (putH X 1 0 0).2 = Y at *
      have hlY : ∀ i, Y.B.length ≤ i → Y.L i = [] := fun i hi => by
        rcases l with l | l
        · exact l i
        · rw [l, if_neg (by omega)]
      have hI : (Y.crash keep).B = X.B ∨ (Y.crash keep).B = X.B.set 1 (headB 1 0 0) := by
        have hother : ∀ i, i ≠ 1 → (Y.crash keep).B[i]? = X.B[i]? := fun i hi => by
          by_cases hlt : i < Y.B.length
          · have hLi : Y.L i = [] := by
              rcases l with l | l
              · exact l i
              · rw [l, if_neg (by omega)]
            rw [(crash_keeps Y keep hlt).2.1 hLi, b]
          · rw [List.getElem?_eq_none (by rw [crash_B_len]; omega), List.getElem?_eq_none (by omega)]
        rcases crash_mem Y keep (i := 1) (by omega) with e1 | ⟨x, hx, e1⟩
        · refine Or.inl (List.ext_getElem? (fun i => ?_))
          by_cases hi : i = 1
          · subst hi; rw [e1, b]
          · exact hother i hi
        · refine Or.inr (List.ext_getElem? (fun i => ?_))
          by_cases hi : i = 1
          · subst hi
            rw [e1, List.getElem?_set_self (by omega)]
            rcases l with l | l
            · rw [l] at hx; cases hx
            · rw [l, if_pos rfl, List.mem_singleton] at hx; rw [hx]
          · rw [hother i hi, List.getElem?_set_ne (fun e => hi e.symm)]
      have hId : Idle (Y.crash keep) := by
        refine ⟨rfl, fun i => crash_L_nil Y keep hlY i, by rw [crash_B_len, hl]; exact h6, by rw [crash_B_len, hl]; exact h.idle.le, ?_⟩
        rcases hI with e1 | e1
        · rw [e1]; exact h.idle.w64
        · exact w64 _ e1
      rcases hI with e1 | e1
      · exact Or.inl ⟨hId, by rw [e1]; exact h.x, by rw [e1]; exact h.y⟩
      · exact Or.inr (h.first hId e1)

/-- What the two heads of a disk tell on which records stand. -/
theorem Stands.picks {X : DV} {recs : List Blk} {s a : Nat} (h : Stands X recs s a) (hs : s ≤ 1152921504606846976) : ¬ (X.cur 0 = zeros 64 ∧ X.cur 1 = zeros 64) ∧ pick (readH (X.cur 0) 0 (64 * areaN X.B.length)) (readH (X.cur 1) 1 (64 * areaN X.B.length)) = some (s, a, (framesB recs).length) := by
  have hm : 64 * areaN X.B.length < 4294967296 := by have := areaN_le h.idle.le; omega
  have h1 := h.s1
  have hrd := readH_head (s := s) (a := a) (u := (framesB recs).length) (pl := s % 2) (most := 64 * areaN X.B.length) h1 hs rfl h.area h.fits hm
  have ho : readH (X.cur (1 - s % 2)) (1 - s % 2) (64 * areaN X.B.length) = none ∨ ∃ a' u', readH (X.cur (1 - s % 2)) (1 - s % 2) (64 * areaN X.B.length) = some (s - 1, a', u') := by
    rw [h.idle.cur]
    rcases h.other with e | ⟨a', u', e, h2, h3, h4⟩
    · rw [e]; exact Or.inl (readH_zeros _ _)
    · rw [e]; exact Or.inr ⟨a', u', readH_head (by omega) (by omega) (by omega) h3 h4 hm⟩
  have hc : X.cur (s % 2) = headB s a (framesB recs).length := by rw [h.idle.cur, h.head]; rfl
  constructor
  · rintro ⟨e0, e1⟩
    have : s % 2 = 0 ∨ s % 2 = 1 := by omega
    rcases this with e | e
    · rw [e, e0] at hc; exact headB_ne _ _ _ hc.symm
    · rw [e, e1] at hc; exact headB_ne _ _ _ hc.symm
  · have : s % 2 = 0 ∨ s % 2 = 1 := by omega
    rcases this with e | e
    · rw [e] at hrd hc ho
      rw [hc, hrd]
      rcases ho with ho | ⟨a', u', ho⟩
      · rw [show X.cur 1 = X.cur (1 - 0) from rfl, show readH (X.cur (1 - 0)) 1 = readH (X.cur (1 - 0)) (1 - 0) from rfl, ho]; rfl
      · rw [show X.cur 1 = X.cur (1 - 0) from rfl, show readH (X.cur (1 - 0)) 1 = readH (X.cur (1 - 0)) (1 - 0) from rfl, ho]
        show (if s < s - 1 then _ else _) = _
        rw [if_neg (by omega)]
    · rw [e] at hrd hc ho
      rw [hc, hrd]
      rcases ho with ho | ⟨a', u', ho⟩
      · rw [show X.cur 0 = X.cur (1 - 1) from rfl, show readH (X.cur (1 - 1)) 0 = readH (X.cur (1 - 1)) (1 - 1) from rfl, ho]; rfl
      · rw [show X.cur 0 = X.cur (1 - 1) from rfl, show readH (X.cur (1 - 1)) 0 = readH (X.cur (1 - 1)) (1 - 1) from rfl, ho]
        show (if s - 1 < s then _ else _) = _
        rw [if_pos (by omega)]

theorem Stands.bytes {X : DV} {recs : List Blk} {s a : Nat} (h : Stands X recs s a) : (bytesOf X (firstN X.B.length a) (((framesB recs).length + 63) / 64)).take (framesB recs).length = framesB recs := by
  have hi := area_in h.idle.ge h.area
  have hf := h.fits
  exact data_read h.idle h.data (by omega)

/-- Sync: whole, or cut off. -/
theorem sync_lv {X : DV} {recs wait : List Blk} {s a : Nat} (h : Stands X recs s a) (hw : ∀ r ∈ wait, r.length ≤ 4096) (hfit : (framesB recs).length + sizeB wait ≤ 64 * areaN X.B.length) :
    ∀ R, syncF X (lvW recs s a wait) = R → Goes X R.2.1 ∧ R.2.1.B.length = X.B.length ∧
    ((R.1 = 0 ∧ ∃ s', s ≤ s' ∧ s' ≤ s + 1 ∧ Stands R.2.1 (recs ++ wait) s' a ∧ R.2.2 = lvW (recs ++ wait) s' a []) ∨
     (R.1 = 15 ∧ X.fuse ≠ -1 ∧ R.2.1.down = true ∧ (∀ j, (R.2.1.L j).length ≤ 1) ∧ R.2.2 = { lvW recs s a wait with lost := true } ∧ ∀ keep, Stands (R.2.1.crash keep) recs s a ∨ Stands (R.2.1.crash keep) (recs ++ wait) (s + 1) a)) := by
  rintro R rfl
  by_cases hn : wait = []
  · subst hn
    have : syncF X (lvW recs s a []) = (0, X, lvW recs s a []) := by unfold syncF; rw [if_neg (by simp [lvW]), if_pos (show (lvW recs s a []).wait = [] from rfl)]
    rw [this]
    exact ⟨Goes.refl X, rfl, Or.inl ⟨rfl, s, Nat.le_refl _, by omega, by rw [List.append_nil]; exact h, by rw [List.append_nil]⟩⟩
  · have hfa : framesB (recs ++ wait) = framesB recs ++ framesB wait := framesB_append _ _
    have hfl : (framesB (recs ++ wait)).length = (framesB recs).length + (framesB wait).length := by rw [hfa, List.length_append]
    have hsp := sync_spec h hw (by rw [hfl, framesB_length wait]; exact hfit) _ rfl
    have hl : ∀ Q, layF X (firstN X.B.length a + (framesB recs).length / 64) ((framesB recs).drop ((framesB recs).length / 64 * 64) ++ framesB wait) (s + 1) a (framesB (recs ++ wait)).length = Q →
      syncF X (lvW recs s a wait) = if Q.1 ≠ 0 then (Q.1, Q.2, { lvW recs s a wait with lost := true }) else (0, Q.2, ⟨s + 1, a, (framesB (recs ++ wait)).length, recs ++ wait, ((framesB recs).drop ((framesB recs).length / 64 * 64) ++ framesB wait).drop (((framesB recs).drop ((framesB recs).length / 64 * 64) ++ framesB wait).length / 64 * 64), [], 0, false⟩) := by
      rintro Q rfl
      rw [hfl]
      unfold syncF
      rw [if_neg (by simp [lvW]), if_neg (by simpa [lvW] using hn)]
      rfl
    have htail : ((framesB recs).drop ((framesB recs).length / 64 * 64) ++ framesB wait).drop (((framesB recs).drop ((framesB recs).length / 64 * 64) ++ framesB wait).length / 64 * 64) = (framesB (recs ++ wait)).drop ((framesB (recs ++ wait)).length / 64 * 64) := by
      have e1 : (framesB recs).drop ((framesB recs).length / 64 * 64) ++ framesB wait = (framesB (recs ++ wait)).drop ((framesB recs).length / 64 * 64) := by
        rw [hfa, List.drop_append_of_le_length (by omega)]
      rw [e1, List.drop_drop, List.length_drop]
      congr 1
      omega
    generalize hQ : layF X (firstN X.B.length a + (framesB recs).length / 64) ((framesB recs).drop ((framesB recs).length / 64 * 64) ++ framesB wait) (s + 1) a (framesB (recs ++ wait)).length = Q at hsp
    rw [hl Q hQ]
    obtain ⟨g, hbl, hr⟩ := hsp
    rcases hr with ⟨e, hst⟩ | ⟨e, f, d, q, hk⟩
    · rw [if_neg (by simp [e])]
      exact ⟨g, hbl, Or.inl ⟨rfl, s + 1, by omega, Nat.le_refl _, hst, by rw [htail]; rfl⟩⟩
    · rw [if_pos (by simp [e])]
      exact ⟨g, hbl, Or.inr ⟨e, f, d, q, rfl, hk⟩⟩

/-- Reset: refused, whole, or cut off. -/
theorem reset_lv {X : DV} {recs recs2 wait : List Blk} {s a : Nat} (h : Stands X recs s a) :
    ∀ R, resetF X (lvW recs s a wait) recs2 = R →
    ((wait ≠ [] ∧ R = (11, X, lvW recs s a wait)) ∨ (wait = [] ∧ (∃ r ∈ recs2, 4096 < r.length) ∧ R = (3, X, lvW recs s a [])) ∨ (wait = [] ∧ (∀ r ∈ recs2, r.length ≤ 4096) ∧ 64 * areaN X.B.length < sizeB recs2 ∧ R = (7, X, lvW recs s a [])) ∨
     (wait = [] ∧ (∀ r ∈ recs2, r.length ≤ 4096) ∧ sizeB recs2 ≤ 64 * areaN X.B.length ∧ Goes X R.2.1 ∧ R.2.1.B.length = X.B.length ∧
      ((R.1 = 0 ∧ Stands R.2.1 recs2 (s + 1) (1 - a) ∧ R.2.2 = lvW recs2 (s + 1) (1 - a) []) ∨
       (R.1 = 15 ∧ X.fuse ≠ -1 ∧ R.2.1.down = true ∧ (∀ j, (R.2.1.L j).length ≤ 1) ∧ R.2.2 = { lvW recs s a [] with lost := true } ∧ ∀ keep, Stands (R.2.1.crash keep) recs s a ∨ Stands (R.2.1.crash keep) recs2 (s + 1) (1 - a))))) := by
  rintro R rfl
  by_cases hn : wait = []
  · subst hn
    by_cases hb : ∃ r ∈ recs2, 4096 < r.length
    · refine Or.inr (Or.inl ⟨rfl, hb, ?_⟩)
      unfold resetF
      rw [if_neg (by simp [lvW]), if_neg (by simp [lvW]), if_pos hb]
    · have hb' : ∀ r ∈ recs2, r.length ≤ 4096 := fun r hr => Nat.le_of_not_lt (fun h => hb ⟨r, hr, h⟩)
      by_cases hf : 64 * areaN X.B.length < sizeB recs2
      · refine Or.inr (Or.inr (Or.inl ⟨rfl, hb', hf, ?_⟩))
        unfold resetF
        rw [if_neg (by simp [lvW]), if_neg (by simp [lvW]), if_neg hb, if_pos hf]
      · refine Or.inr (Or.inr (Or.inr ⟨rfl, hb', by omega, ?_⟩))
        have hsp := reset_spec h hb' (by rw [framesB_length]; omega) _ rfl
        have hl : ∀ Q, layF X (firstN X.B.length (1 - a)) (framesB recs2) (s + 1) (1 - a) (framesB recs2).length = Q →
          resetF X (lvW recs s a []) recs2 = if Q.1 ≠ 0 then (Q.1, Q.2, { lvW recs s a [] with lost := true }) else (0, Q.2, lvW recs2 (s + 1) (1 - a) []) := by
          rintro Q rfl
          unfold resetF
          rw [if_neg (by simp [lvW]), if_neg (by simp [lvW]), if_neg hb, if_neg hf]
          rfl
        generalize hQ : layF X (firstN X.B.length (1 - a)) (framesB recs2) (s + 1) (1 - a) (framesB recs2).length = Q at hsp
        rw [hl Q hQ]
        obtain ⟨g, hbl, hr⟩ := hsp
        rcases hr with ⟨e, hst⟩ | ⟨e, f, d, q, hk⟩
        · rw [if_neg (by simp [e])]
          exact ⟨g, hbl, Or.inl ⟨rfl, hst, rfl⟩⟩
        · rw [if_pos (by simp [e])]
          exact ⟨g, hbl, Or.inr ⟨e, f, d, q, rfl, hk⟩⟩
  · refine Or.inl ⟨hn, ?_⟩
    unfold resetF
    rw [if_neg (by simp [lvW]), if_pos (by simpa [lvW] using hn)]

/-- Add: refused, or one more waits. -/
theorem add_lv {n : Nat} {recs wait : List Blk} {s a : Nat} (r : Blk) : addF n (lvW recs s a wait) r =
    if 4096 < r.length then (3, lvW recs s a wait) else if roomF n (lvW recs s a wait) < (r.length : Int) + 8 then (7, lvW recs s a wait) else (0, lvW recs s a (wait ++ [r])) := by
  unfold addF
  rw [if_neg (by simp [lvW])]
  have : sizeB (wait ++ [r]) = sizeB wait + (r.length + 8) := by simp [sizeB]
  show (if _ then _ else if _ then _ else _) = _
  rw [show lvW recs s a (wait ++ [r]) = { lvW recs s a wait with wait := wait ++ [r], more := sizeB wait + (r.length + 8) } by unfold lvW; rw [this]]
  rfl

end Go.Proofs.YtbkefhoapnaciaaGreat.wals
end

/-
  wal: Open of a disk on which records stand, of a blank one.
-/
section
set_option linter.unusedSimpArgs false
set_option linter.unusedVariables false
namespace Go.Proofs.YtbkefhoapnaciaaGreat.wals
open Go.RowKit Go.My disks bufs
set_option maxRecDepth 100000

variable {w w' : World} {l d : Nat} {F Fd : Nat → Prop} {X : DV} {V : LV} {rv tv wv : Value}

theorem Idle.cur64 {X : DV} (h : Idle X) : ∀ i, i < X.B.length → (X.cur i).length = 64 := fun i hi => by
  rw [h.cur, List.getElem?_eq_getElem hi]
  exact h.w64 _ (List.getElem_mem hi)

theorem open_of_stands (w : World) (h : DiskAt w d Fd X) {recs : List Blk} {s a : Nat} (hs : Stands X recs s a) (h60 : s ≤ 1152921504606846976) (hf : X.fuse ≤ 9223372036854775807) :
    Calls Tryz.prog 45 #[.pointer (some ⟨d, 0, none⟩)] w (OpenPost w d Fd (0, X, some (lvW recs s a []))) :=
  open_stands w h hs.idle.up hs.idle.ge hs.idle.le hf (fun j => by rw [hs.idle.L]; simp) hs.idle.cur64 (hs.picks h60).1 s a _ (hs.picks h60).2 hs.area hs.fits recs hs.short hs.bytes

theorem open_of_blank (w : World) (h : DiskAt w d Fd X) (hb : Blank X) (hf : X.fuse ≤ 9223372036854775807) :
    Calls Tryz.prog 45 #[.pointer (some ⟨d, 0, none⟩)] w (OpenPost w d Fd (openF X)) :=
  open_blank w h hb.idle.up hb.idle.ge hb.idle.le hf (fun j => by rw [hb.idle.L]; simp) hb.cur.1 hb.cur.2

/-- Open of a blank disk that is not cut off. -/
theorem open_new (w : World) (h : DiskAt w d Fd X) (hb : Blank X) (hf : X.fuse = -1) :
    Calls Tryz.prog 45 #[.pointer (some ⟨d, 0, none⟩)] w fun e w' => ∃ l F' Fd' X', e = .returned (.tuple #[.pointer (some ⟨l, 0, none⟩), .int .i64 0]) ∧ LogAt w' l d F' Fd' X' (lvW [] 1 0 []) ∧ Stands X' [] 1 0 ∧ X'.fuse = -1 ∧ X'.B.length = X.B.length ∧
      (∀ k, F' k → w.heap.size ≤ k) ∧ (∀ k, Fd' k → Fd k ∨ w.heap.size ≤ k) ∧ Chg Fd w w' := by
  refine (open_of_blank w h hb (by omega)).mono ?_
  rintro e w' ⟨Fd', h1, h2, h3⟩
  obtain ⟨g, hl, hr⟩ := blank_open hb _ rfl
  rcases hr with ⟨e1, e2, e3⟩ | ⟨e1, e2, e3, -⟩
  · rcases h3 with ⟨V, l, F', k1, k2, k3, k4⟩ | ⟨k1, -⟩
    · rw [e2] at k1
      cases k1
      exact ⟨l, F', Fd', _, k2, k3, e3, g.free hf, hl, k4, h1, h2⟩
    · rw [e2] at k1; cases k1
  · exact absurd hf e3

end Go.Proofs.YtbkefhoapnaciaaGreat.wals
end

/-
  small: the law's texts, cut; Same: two lists of texts.
-/
section
set_option linter.unusedSimpArgs false
set_option linter.unusedVariables false
namespace Go.Proofs.YtbkefhoapnaciaaGreat.wals
open Go.RowKit Go.My disks bufs
set_option maxRecDepth 100000

variable {w w' : World}

def smallS (r : Blk) : Blk := if 5000 < r.length then r.take 5000 else if 300 < r.length ∧ r.length ≤ 4096 then r.take 300 else r
def smallL (l : List Blk) : List Blk := (l.take 20).map smallS

theorem smallS_len (r : Blk) : (smallS r).length ≤ 5000 := by
  unfold smallS
  split
  · rw [List.length_take]; omega
  · split
    · rw [List.length_take]; omega
    · omega
theorem smallL_len (l : List Blk) : (smallL l).length ≤ 20 := by simp [smallL]; omega
theorem smallL_mem {l : List Blk} {r : Blk} (h : r ∈ smallL l) : r.length ≤ 5000 := by
  obtain ⟨x, -, rfl⟩ := List.mem_map.1 h
  exact smallS_len x

theorem str_take (r : Blk) (n : Nat) : (⟨r.toArray⟩ : ByteArray).extract 0 n = ⟨(r.take n).toArray⟩ := by
  rw [Lib.extract_eq]; simp

theorem smallL_push {l : List Blk} {k : Nat} {r : Blk} (h : l[k]? = some r) (hk : k < 20) : smallL (l.take (k + 1)) = smallL (l.take k) ++ [smallS r] := by
  unfold smallL
  rw [List.take_take, List.take_take, Nat.min_eq_right (by omega), Nat.min_eq_right (by omega), List.take_add_one, h, Option.toList_some, List.map_append]
  rfl

structure Sm (W w : World) (v : Value) (l : List Blk) : Prop where
  own : w.ownsRow W.heap.size 9 1 v l.length (l.map strV)
  chg : Chg (fun _ => False) W w


/-- The text at a place of an own row of texts, in any world that keeps the row. -/
theorem row_cell {w : World} {base n : Nat} {oa : Option Addr} {m cap : Nat} {l : List Blk} (h : w.ownsRow base 9 1 (.slice oa m cap) n (l.map strV)) {k : Nat} {r : Blk} (hr : l[k]? = some r) :
    ∃ g, oa = some ⟨g, 0, none⟩ ∧ base ≤ g ∧ g < w.heap.size ∧ ∀ (S : Nat → Prop) w', Chg S w w' → ¬ S g → w'.cell? ⟨g, k, none⟩ = some (strV r) := by
  have hk : k < l.length := (List.getElem?_eq_some_iff.1 hr).1
  rcases h.2 with ⟨h1, h0⟩ | ⟨g, c, cur, h1, hb, hg, -⟩
  · have := h.1
    rw [List.length_map] at this
    omega
  · simp only [Value.slice.injEq] at h1
    obtain ⟨rfl, -, -⟩ := h1
    refine ⟨g, rfl, hb, lt_of_block hg, fun S w' hc hS => ?_⟩
    have h2 := row_kept h hc (fun g' hg' => by simp only [Value.ownBlock, Option.some.injEq] at hg'; rw [← hg']; exact hS)
    obtain ⟨b, off, e1, -, e3⟩ := SlAt.cell (SlAt.of_own h2) (k := k) (by rw [List.length_map]; exact hk)
    simp only [Option.some.injEq, Addr.mk.injEq, and_true] at e1
    obtain ⟨rfl, rfl⟩ := e1
    rw [Nat.zero_add] at e3
    rw [e3, List.getElem_map]
    congr 2
    exact (List.getElem?_eq_some_iff.1 hr).2

end Go.Proofs.YtbkefhoapnaciaaGreat.wals
end

/-
  wal: a record that is synced is there when the log is opened again.
-/
section
set_option linter.unusedSimpArgs false
set_option linter.unusedVariables false
namespace Go.Proofs.YtbkefhoapnaciaaGreat.wals
open Go.RowKit Go.My disks bufs
set_option maxRecDepth 100000

variable {w w' : World} {l d : Nat} {F Fd : Nat → Prop} {X : DV} {V : LV} {rv tv wv : Value}

theorem DV.new_len (n : Nat) : (DV.new n).B.length = n := by show (List.replicate n zeroBlk).length = n; rw [List.length_replicate]

/-- Sync of a disk that is not cut off. -/
theorem sync_whole (w : World) {recs wait : List Blk} {s a : Nat} (h : LogAt w l d F Fd X (lvW recs s a wait)) (hs : Stands X recs s a) (h60 : s ≤ 1152921504606846976) (hf : X.fuse = -1) (hw : ∀ r ∈ wait, r.length ≤ 4096) (hfit : (framesB recs).length + sizeB wait ≤ 64 * areaN X.B.length) :
    Calls Tryz.prog 50 #[.pointer (some ⟨l, 0, none⟩)] w fun e w' => ∃ F' Fd' X' s', e = .returned (.int .i64 0) ∧ LogAt w' l d F' Fd' X' (lvW (recs ++ wait) s' a []) ∧ Stands X' (recs ++ wait) s' a ∧ s ≤ s' ∧ s' ≤ s + 1 ∧ X'.fuse = -1 ∧ X'.B.length = X.B.length ∧
      (∀ k, F' k → F k ∨ w.heap.size ≤ k) ∧ (∀ k, Fd' k → Fd k ∨ w.heap.size ≤ k) ∧ Chg (fun k => F k ∨ Fd k) w w' := by
  refine (sync_any w h (lvW_ok hs h60 hw hfit) (by omega) (fun j => by rw [hs.idle.L]; simp)).mono ?_
  rintro e w' ⟨rfl, F', Fd', h1, h2, h3, h4⟩
  obtain ⟨g, hl, hr⟩ := sync_lv hs hw hfit _ rfl
  rcases hr with ⟨e1, s', s1, s2, e2, e3⟩ | ⟨-, e1, -⟩
  · rw [e3] at h1
    rw [e1]
    exact ⟨F', Fd', _, s', rfl, h1, e2, s1, s2, g.free hf, hl, h2, h3, h4⟩
  · exact absurd hf e1

/-- A log and its disk: of the blocks P, and of such that are new since W; of all else nothing has changed. -/
structure WAt (P : Nat → Prop) (W w : World) (l d : Nat) (X : DV) (V : LV) : Prop where
  at' : ∃ F Fd, LogAt w l d F Fd X V ∧ ∀ k, F k ∨ Fd k → P k ∨ W.heap.size ≤ k
  chg : Chg P W w
structure DAt (P : Nat → Prop) (W w : World) (d : Nat) (X : DV) : Prop where
  at' : ∃ Fd, DiskAt w d Fd X ∧ ∀ k, Fd k → P k ∨ W.heap.size ≤ k
  chg : Chg P W w

variable {W : World} {P : Nat → Prop}
theorem chg_more {S : Nat → Prop} (h : Chg P W w) (hc : Chg S w w') (hs : ∀ k, S k → P k ∨ W.heap.size ≤ k) : Chg P W w' :=
  h.trans hc (fun k hk hS => (hs k hS).elim id (fun h => by omega))
theorem WAt.fresh (h : WAt P W w l d X V) (hc : Chg (fun _ => False) w w') : WAt P W w' l d X V := by
  obtain ⟨⟨F, Fd, h1, h2⟩, h3⟩ := h
  exact ⟨⟨F, Fd, h1.fresh hc, h2⟩, chg_more h3 hc (fun _ h => h.elim)⟩
theorem DAt.fresh (h : DAt P W w d X) (hc : Chg (fun _ => False) w w') : DAt P W w' d X := by
  obtain ⟨⟨Fd, h1, h2⟩, h3⟩ := h
  exact ⟨⟨Fd, h1.fresh hc, h2⟩, chg_more h3 hc (fun _ h => h.elim)⟩
theorem WAt.disk (h : WAt P W w l d X V) : DAt P W w d X := by
  obtain ⟨⟨F, Fd, h1, h2⟩, h3⟩ := h
  exact ⟨⟨Fd, h1.disk, fun k hk => h2 k (Or.inr hk)⟩, h3⟩
/-- The same, seen from the world as it is now. -/
def NowP (P : Nat → Prop) (W w : World) : Nat → Prop := fun k => (P k ∨ W.heap.size ≤ k) ∧ k < w.heap.size
theorem WAt.now (h : WAt P W w l d X V) : WAt (NowP P W w) w w l d X V := by
  obtain ⟨⟨F, Fd, h1, h2⟩, h3⟩ := h
  exact ⟨⟨F, Fd, h1, fun k hk => Or.inl ⟨h2 k hk, h1.lt k hk⟩⟩, Chg.refl _ _⟩
theorem WAt.rest (h : WAt P W w l d X V) (hc : Chg (fun _ => False) w w') : WAt (NowP P W w) w' w' l d X V := by
  obtain ⟨⟨F, Fd, h1, h2⟩, h3⟩ := h
  exact ⟨⟨F, Fd, h1.fresh hc, fun k hk => Or.inl ⟨h2 k hk, h1.lt k hk⟩⟩, Chg.refl _ _⟩
theorem DAt.rest (h : DAt P W w d X) (hc : Chg (fun _ => False) w w') : DAt (NowP P W w) w' w' d X := by
  obtain ⟨⟨Fd, h1, h2⟩, h3⟩ := h
  exact ⟨⟨Fd, h1.fresh hc, fun k hk => Or.inl ⟨h2 k hk, h1.lt k hk⟩⟩, Chg.refl _ _⟩
theorem chg_now {w0 : World} (h : Chg P W w0) (hc : Chg (NowP P W w) w0 w') : Chg P W w' :=
  chg_more h hc (fun _ hk => hk.1)
theorem WAt.back {w0 : World} (hl : WAt (NowP P W w) w0 w' l d X V) (h : Chg P W w0) : WAt P W w' l d X V := by
  obtain ⟨⟨F, Fd, h1, h2⟩, h3⟩ := hl
  exact ⟨⟨F, Fd, h1, fun k hk => (h2 k hk).elim (fun h => h.1) (fun h' => Or.inr (Nat.le_trans h.size h'))⟩, chg_more h h3 (fun _ hk => hk.1)⟩

/-- The calls, over such a state. -/
theorem wat_room (h : WAt P W w l d X V) (hV : V.Ok X.B.length) : Calls Tryz.prog 70 #[.pointer (some ⟨l, 0, none⟩)] w fun e w' => e = .returned (.int .i64 (roomF X.B.length V)) ∧ Chg (fun _ => False) w w' := by
  obtain ⟨⟨F, Fd, h1, h2⟩, h3⟩ := h
  exact room_any w h1 hV
theorem wat_records (h : WAt P W w l d X V) (hr : V.recs.length ≤ 131008) : Calls Tryz.prog 46 #[.pointer (some ⟨l, 0, none⟩)] w fun e w' => ∃ v, e = .returned v ∧ w'.ownsRow w.heap.size 9 1 v V.recs.length (V.recs.map strV) ∧ Chg (fun _ => False) w w' := by
  obtain ⟨⟨F, Fd, h1, h2⟩, h3⟩ := h
  exact records_any w h1 hr
theorem WAt.post (h3 : Chg P W w) {F' Fd' : Nat → Prop} {l' : Nat} {X' : DV} {V' : LV} (h2 : ∀ k, F k ∨ Fd k → P k ∨ W.heap.size ≤ k) (k1 : LogAt w' l' d F' Fd' X' V') (k2 : ∀ k, F' k → F k ∨ w.heap.size ≤ k) (k3 : ∀ k, Fd' k → Fd k ∨ w.heap.size ≤ k) {S : Nat → Prop} (hS : ∀ k, S k → F k ∨ Fd k) (k4 : Chg S w w') : WAt P W w' l' d X' V' :=
  ⟨⟨F', Fd', k1, fun k hk => hk.elim (fun h => (k2 k h).elim (fun h => h2 k (Or.inl h)) (fun h => Or.inr (Nat.le_trans h3.size h))) (fun h => (k3 k h).elim (fun h => h2 k (Or.inr h)) (fun h => Or.inr (Nat.le_trans h3.size h)))⟩, chg_more h3 k4 (fun k hk => h2 k (hS k hk))⟩
theorem wat_add (h : WAt P W w l d X V) (hV : V.Ok X.B.length) (r : Blk) (hr : r.length ≤ 1000000000000) : Calls Tryz.prog 49 #[.pointer (some ⟨l, 0, none⟩), strV r] w fun e w' => e = .returned (.int .i64 ((addF X.B.length V r).1 : Int)) ∧ WAt P W w' l d X (addF X.B.length V r).2 := by
  obtain ⟨⟨F, Fd, h1, h2⟩, h3⟩ := h
  refine (add_any w h1 hV r hr).mono ?_
  rintro e w' ⟨rfl, F', k1, k2, k3⟩
  exact ⟨rfl, WAt.post h3 h2 k1 k2 (fun k hk => Or.inl hk) (fun k hk => Or.inl hk) k3⟩
theorem wat_sync (h : WAt P W w l d X V) (hV : V.Ok X.B.length) (hf : X.fuse ≤ 9223372036854775807) (hL : ∀ j, (X.L j).length < 500000) : Calls Tryz.prog 50 #[.pointer (some ⟨l, 0, none⟩)] w fun e w' => e = .returned (.int .i64 (syncF X V).1) ∧ WAt P W w' l d (syncF X V).2.1 (syncF X V).2.2 := by
  obtain ⟨⟨F, Fd, h1, h2⟩, h3⟩ := h
  refine (sync_any w h1 hV hf hL).mono ?_
  rintro e w' ⟨rfl, F', Fd', k1, k2, k3, k4⟩
  exact ⟨rfl, WAt.post h3 h2 k1 k2 k3 (fun _ h => h) k4⟩
theorem wat_sync_whole {recs wait : List Blk} {s a : Nat} (h : WAt P W w l d X (lvW recs s a wait)) (hs : Stands X recs s a) (h60 : s ≤ 1152921504606846976) (hf : X.fuse = -1) (hw : ∀ r ∈ wait, r.length ≤ 4096) (hfit : (framesB recs).length + sizeB wait ≤ 64 * areaN X.B.length) :
    Calls Tryz.prog 50 #[.pointer (some ⟨l, 0, none⟩)] w fun e w' => ∃ X' s', e = .returned (.int .i64 0) ∧ WAt P W w' l d X' (lvW (recs ++ wait) s' a []) ∧ Stands X' (recs ++ wait) s' a ∧ s ≤ s' ∧ s' ≤ s + 1 ∧ X'.fuse = -1 ∧ X'.B.length = X.B.length := by
  obtain ⟨⟨F, Fd, h1, h2⟩, h3⟩ := h
  refine (sync_whole w h1 hs h60 hf hw hfit).mono ?_
  rintro e w' ⟨F', Fd', X', s', rfl, k1, j1, j2, j3, j4, j5, k2, k3, k4⟩
  exact ⟨X', s', rfl, WAt.post h3 h2 k1 k2 k3 (fun _ h => h) k4, j1, j2, j3, j4, j5⟩
theorem wat_reset (h : WAt P W w l d X V) (hV : V.Ok X.B.length) (hf : X.fuse ≤ 9223372036854775807) (hL : ∀ j, (X.L j).length < 500000) (recs : List Blk) (rsv : Value) (hrs : SlAt w rsv (recs.map strV)) (hbf : ∀ g, rsv.ownBlock = some g → ¬ P g ∧ g < W.heap.size) (hn : recs.length ≤ 1000000000) (hlen : ∀ r ∈ recs, r.length ≤ 1000000000000) :
    Calls Tryz.prog 52 #[.pointer (some ⟨l, 0, none⟩), rsv] w fun e w' => e = .returned (.int .i64 (resetF X V recs).1) ∧ WAt P W w' l d (resetF X V recs).2.1 (resetF X V recs).2.2 := by
  obtain ⟨⟨F, Fd, h1, h2⟩, h3⟩ := h
  refine (reset_any w h1 hV hf hL recs rsv hrs (fun g hg hF => (h2 g hF).elim (hbf g hg).1 (fun h => by have := (hbf g hg).2; omega)) hn hlen).mono ?_
  rintro e w' ⟨rfl, F', Fd', k1, k2, k3, k4⟩
  exact ⟨rfl, WAt.post h3 h2 k1 k2 k3 (fun _ h => h) k4⟩
theorem WAt.opened (h3 : Chg P W w) {F' Fd' Fd : Nat → Prop} {l' : Nat} {X' : DV} {V' : LV} (h2 : ∀ k, Fd k → P k ∨ W.heap.size ≤ k) (k1 : LogAt w' l' d F' Fd' X' V') (k2 : ∀ k, F' k → w.heap.size ≤ k) (k3 : ∀ k, Fd' k → Fd k ∨ w.heap.size ≤ k) (k4 : Chg Fd w w') : WAt P W w' l' d X' V' :=
  WAt.post (F := fun _ => False) h3 (fun k hk => hk.elim (fun h => h.elim) (h2 k)) k1 (fun k hk => Or.inr (k2 k hk)) k3 (fun k hk => Or.inr hk) k4
theorem wat_open (h : DAt P W w d X) {recs : List Blk} {s a : Nat} (hs : Stands X recs s a) (h60 : s ≤ 1152921504606846976) (hf : X.fuse ≤ 9223372036854775807) :
    Calls Tryz.prog 45 #[.pointer (some ⟨d, 0, none⟩)] w fun e w' => ∃ l, e = .returned (.tuple #[.pointer (some ⟨l, 0, none⟩), .int .i64 0]) ∧ WAt P W w' l d X (lvW recs s a []) := by
  obtain ⟨⟨Fd, h1, h2⟩, h3⟩ := h
  refine (open_of_stands w h1 hs h60 hf).mono ?_
  rintro e w' ⟨Fd', k1, k2, k3⟩
  rcases k3 with ⟨V, l, F', j1, j2, j3, j4⟩ | ⟨j1, -⟩
  · cases j1
    exact ⟨l, j2, WAt.opened h3 h2 j3 j4 k1 k2⟩
  · cases j1
theorem wat_open_new (h : DAt P W w d X) (hb : Blank X) (hf : X.fuse = -1) :
    Calls Tryz.prog 45 #[.pointer (some ⟨d, 0, none⟩)] w fun e w' => ∃ l X', e = .returned (.tuple #[.pointer (some ⟨l, 0, none⟩), .int .i64 0]) ∧ WAt P W w' l d X' (lvW [] 1 0 []) ∧ Stands X' [] 1 0 ∧ X'.fuse = -1 ∧ X'.B.length = X.B.length := by
  obtain ⟨⟨Fd, h1, h2⟩, h3⟩ := h
  refine (open_new w h1 hb hf).mono ?_
  rintro e w' ⟨l, F', Fd', X', rfl, j3, j5, j6, j7, j4, k1, k2⟩
  exact ⟨l, X', rfl, WAt.opened h3 h2 j3 j4 k1 k2, j5, j6, j7⟩
theorem wat_crash (h : DAt P W w d X) {v : Value} {keep : List Int} (hk : SlAt w v (keep.map (Value.int .i64))) (hkf : keep ≠ [] → ∀ g, v.ownBlock = some g → ¬ P g ∧ g < W.heap.size) (hin : ∀ z ∈ keep, inR z) (hL : ∀ j, (X.L j).length < 1000000) :
    Calls Tryz.prog 28 #[.pointer (some ⟨d, 0, none⟩), v] w fun e w' => e = .returned (.int .i64 0) ∧ DAt P W w' d (X.crash keep) := by
  obtain ⟨⟨Fd, h1, h2⟩, h3⟩ := h
  refine (crash_at w h1 hk (fun hne g hg hF => (h2 g hF).elim (hkf hne g hg).1 (fun h => by have := (hkf hne g hg).2; omega)) hin hL).mono ?_
  rintro e w' ⟨rfl, k1, k2⟩
  exact ⟨rfl, ⟨Fd, k1, h2⟩, chg_more h3 k2 h2⟩
theorem dat_blocks (h : DAt P W w d X) : Calls Tryz.prog 63 #[.pointer (some ⟨d, 0, none⟩)] w fun e w' => e = .returned (.int .i64 X.B.length) ∧ w = w' := by
  obtain ⟨⟨Fd, h1, h2⟩, h3⟩ := h
  exact blocks_any w h1
theorem dat_fuse (h : DAt P W w d X) (n : Int) : Calls Tryz.prog 26 #[.pointer (some ⟨d, 0, none⟩), .int .i64 n] w fun e w' => e = .returned (.int .i64 (fuseC X n)) ∧ DAt P W w' d (X.set n) := by
  obtain ⟨⟨Fd, h1, h2⟩, h3⟩ := h
  refine (fuse_at w h1 n).mono ?_
  rintro e w' ⟨rfl, k1, k2⟩
  exact ⟨rfl, ⟨Fd, k1, h2⟩, chg_more h3 k2 h2⟩
theorem dat_up (h : DAt P W w d X) : Calls Tryz.prog 27 #[.pointer (some ⟨d, 0, none⟩)] w fun e w' => e = .returned (.bool (!X.down)) ∧ w = w' := by
  obtain ⟨⟨Fd, h1, h2⟩, h3⟩ := h
  exact up_any w h1
theorem dat_new (w : World) (n : Nat) (h1 : 1 ≤ n) (hn : n ≤ 4096) : Calls Tryz.prog 17 #[.int .i64 (n : Int)] w fun e w' => ∃ d, e = .returned (.tuple #[.pointer (some ⟨d, 0, none⟩), .int .i64 0]) ∧ DAt (fun _ => False) w w' d (DV.new n) := by
  refine (disks.new_any w n h1 hn).mono ?_
  rintro e w' ⟨d, rfl, k1, k2⟩
  exact ⟨d, rfl, ⟨_, k1, fun k hk => Or.inr hk.1⟩, k2⟩

def xB : Blk := [120]
theorem strV_x : strV xB = .string ⟨#[120]⟩ := rfl
theorem sizeB_x : sizeB [xB] = 9 := rfl

end Go.Proofs.YtbkefhoapnaciaaGreat.wals
end

/-
  wal: lists of texts that stay as they are; Reset, Open over the laws' state.
-/
section
set_option linter.unusedSimpArgs false
set_option linter.unusedVariables false
namespace Go.Proofs.YtbkefhoapnaciaaGreat.wals
open Go.RowKit Go.My disks bufs
set_option maxRecDepth 100000

variable {w w' W : World} {l d : Nat} {F Fd P : Nat → Prop} {X : DV} {V : LV}

/-- A list of texts that stays, as long as nothing but P and new blocks change. -/
structure Kp (P : Nat → Prop) (W : World) (v : Value) (l : List Blk) : Prop where
  at' : ∀ w', Chg P W w' → SlAt w' v (l.map strV)
  off : ∀ g, v.ownBlock = some g → ¬ P g ∧ g < W.heap.size

theorem Kp.of_own {base n : Nat} {v : Value} {rs : List Blk} (h : W.ownsRow base 9 1 v n (rs.map strV)) (hP : ∀ g, base ≤ g → ¬ P g) : Kp P W v rs :=
  ⟨fun _ hc => SlAt.of_own (row_kept h hc (fun g hg => hP g (h.lt g hg).1)), fun g hg => ⟨hP g (h.lt g hg).1, (h.lt g hg).2⟩⟩
theorem Kp.now {v : Value} {rs : List Blk} (h : Kp P W v rs) (hc : Chg P W w) : Kp (NowP P W w) w v rs :=
  ⟨fun w' h' => h.at' w' (chg_now hc h'), fun g hg => ⟨fun hN => hN.1.elim (h.off g hg).1 (fun h' => by have := (h.off g hg).2; omega), Nat.lt_of_lt_of_le (h.off g hg).2 hc.size⟩⟩
theorem Kp.fresh {v : Value} {rs : List Blk} (h : Kp P W v rs) (hc : Chg (fun _ => False) W w) : Kp P w v rs :=
  ⟨fun w' h' => h.at' w' ((hc.mono (fun _ _ h => h.elim)).trans' h'), fun g hg => ⟨(h.off g hg).1, Nat.lt_of_lt_of_le (h.off g hg).2 hc.size⟩⟩
theorem Kp.nil (v : Value) (n : Nat) (hv : v = .slice none 0 n) : Kp P W v [] := by
  subst hv
  exact ⟨fun _ _ => ⟨none, n, rfl, fun h => absurd rfl h, by simp⟩, fun g hg => by simp [Value.ownBlock] at hg⟩

/-- What Reset leaves on a disk that is not cut off. -/
theorem wat_reset_lv {recs recs2 : List Blk} {s a : Nat} (h : WAt P W w l d X (lvW recs s a [])) (hs : Stands X recs s a) (h60 : s ≤ 1152921504606846976) (hf : X.fuse = -1) (v : Value) (hv : Kp P W v recs2) (hn : recs2.length ≤ 1000000000) (hlen : ∀ r ∈ recs2, r.length ≤ 1000000000000) :
    Calls Tryz.prog 52 #[.pointer (some ⟨l, 0, none⟩), v] w fun e w' => ∃ X' recs' s' a', WAt P W w' l d X' (lvW recs' s' a' []) ∧ Stands X' recs' s' a' ∧ s ≤ s' ∧ s' ≤ s + 1 ∧ X'.fuse = -1 ∧ X'.B.length = X.B.length ∧
      ((e = .returned (.int .i64 0) ∧ recs' = recs2) ∨ (e = .returned (.int .i64 3) ∧ recs' = recs) ∨ (e = .returned (.int .i64 7) ∧ recs' = recs)) := by
  have hfit := hs.fits
  refine (wat_reset h (lvW_ok hs h60 (wait := []) (by simp) (by show _ + 0 ≤ _; omega)) (by omega) (fun j => by rw [hs.idle.L]; simp) recs2 v (hv.at' _ h.chg) hv.off hn hlen).mono ?_
  rintro e w' ⟨rfl, hat⟩
  rcases reset_lv hs (recs2 := recs2) (wait := []) _ rfl with ⟨h1, -⟩ | ⟨-, -, h1⟩ | ⟨-, -, -, h1⟩ | ⟨-, -, -, g, hl, h1⟩
  · exact absurd rfl h1
  · rw [h1] at hat ⊢
    exact ⟨X, recs, s, a, hat, hs, Nat.le_refl _, by omega, hf, rfl, Or.inr (Or.inl ⟨rfl, rfl⟩)⟩
  · rw [h1] at hat ⊢
    exact ⟨X, recs, s, a, hat, hs, Nat.le_refl _, by omega, hf, rfl, Or.inr (Or.inr ⟨rfl, rfl⟩)⟩
  · rcases h1 with ⟨e1, e2, e3⟩ | ⟨-, e1, -⟩
    · rw [e3] at hat
      rw [e1]
      exact ⟨_, recs2, s + 1, 1 - a, hat, e2, by omega, Nat.le_refl _, g.free hf, hl, Or.inl ⟨rfl, rfl⟩⟩
    · exact absurd hf e1

/-- Open of a disk that a log is on already. -/
theorem wat_open2 (h : WAt P W w l d X V) {recs : List Blk} {s a : Nat} (hs : Stands X recs s a) (h60 : s ≤ 1152921504606846976) (hf : X.fuse ≤ 9223372036854775807) :
    Calls Tryz.prog 45 #[.pointer (some ⟨d, 0, none⟩)] w fun e w' => ∃ m, e = .returned (.tuple #[.pointer (some ⟨m, 0, none⟩), .int .i64 0]) ∧ WAt P W w' m d X (lvW recs s a []) ∧ WAt P W w' l d X V := by
  obtain ⟨⟨F, Fd, h1, h2⟩, h3⟩ := h
  refine (open_of_stands w h1.disk hs h60 hf).mono ?_
  rintro e w' ⟨Fd', k1, k2, k3⟩
  rcases k3 with ⟨V', m, F', j1, j2, j3, j4⟩ | ⟨j1, -⟩
  · cases j1
    refine ⟨m, j2, WAt.opened h3 (fun k hk => h2 k (Or.inr hk)) j3 j4 k1 k2, ?_⟩
    obtain ⟨⟨rv, tv, wv, hl⟩, hd, ho⟩ := h1
    refine ⟨⟨F, Fd', ⟨⟨rv, tv, wv, hl.kept k2 (fun k hk => ho k hk)⟩, j3.disk, fun k hk hF => (k1 k hF).elim (ho k hk) (fun h' => by have := hl.lt k hk; omega)⟩, fun k hk => hk.elim (fun h => h2 k (Or.inl h)) (fun h => (k1 k h).elim (fun h => h2 k (Or.inr h)) (fun h' => Or.inr (Nat.le_trans h3.size h')))⟩, chg_more h3 k2 (fun k hk => h2 k (Or.inr hk))⟩
  · cases j1

/-- A copy of a list of texts, and one more. -/
theorem copy_push {oa : Option Addr} {n cap : Nat} {rs : List Blk} (hs : SlAt w (.slice oa n cap) (rs.map strV)) (sr : ByteArray) (r : Blk) (hsr : strV r = .string sr) (hl : rs.length ≤ 1000000000) :
    ∃ v2 w2 v3 w3, (Builtin.append_ #[36, 36] 36 #[.slice (some ⟨w.heap.size, 0, none⟩) 0 0, .slice oa n cap]).run Tryz.prog (w.alloc (.cells #[] 9)) = .ok v2 w2 ∧
      ((Builtin.append_ #[36, 36] 36 #[v2, .slice (some ⟨w2.heap.size, 0, none⟩) 1 1]).run Tryz.prog (w2.alloc (.cells #[.string sr] 9)) = .ok v3 w3 ∧ ∃ oa n cap, v2 = .slice oa n cap) ∧
      w3.ownsRow w.heap.size 9 1 v3 (rs ++ [r]).length ((rs ++ [r]).map strV) ∧ Chg (fun _ => False) w w3 := by
  have hc1 : Chg (fun _ => False) w (w.alloc (.cells #[] 9)) := (Chg.refl _ _).alloc _
  have ho : (w.alloc (.cells #[] 9)).ownsRow w.heap.size 9 1 (.slice (some ⟨w.heap.size, 0, none⟩) 0 0) 0 [] := own_of_block (n := 0) at1 (Nat.le_refl _) rfl (by unfold maxLen; omega)
  obtain ⟨v2, w2, hr2, ho2, hg2, -⟩ := append_strs ho (hs.kept hc1) (one_strs _) hc1.size (by simp only [List.length_map, List.length_nil]; omega) 36
  have hc2 : Chg (fun _ => False) w w2 := hc1.append ho (Chg.refl _ _) hg2
  rw [List.nil_append, List.length_map] at ho2
  have hca : Chg (fun _ => False) w2 (w2.alloc (.cells #[.string sr] 9)) := (Chg.refl _ _).alloc _
  have hs2 : SlAt (w2.alloc (.cells #[.string sr] 9)) (.slice (some ⟨w2.heap.size, 0, none⟩) 1 1) [.string sr] := SlAt.of_own (own_of_block (base := 0) (n := 1) at1 (Nat.zero_le _) rfl (by unfold maxLen; omega))
  obtain ⟨oa2, cap2, rfl⟩ := own_slice ho2
  obtain ⟨v3, w3, hr3, ho3, hg3, -⟩ := append_strs (own_kept ho2 hca) hs2 (fun y hy => by rw [List.mem_singleton] at hy; subst hy; rfl) (hc2.trans' hca).size (by simp only [List.length_map, List.length_singleton]; omega) 36
  have e3 : rs.map strV ++ [.string sr] = (rs ++ [r]).map strV := by rw [List.map_append, List.map_cons, hsr]; rfl
  rw [e3, List.length_map] at ho3
  exact ⟨_, w2, v3, w3, hr2, ⟨hr3, _, _, _, rfl⟩, ho3, hc2.append ho2 hca hg3⟩

end Go.Proofs.YtbkefhoapnaciaaGreat.wals
end

/-
  wal: texts as arguments.
-/
section
set_option linter.unusedSimpArgs false
set_option linter.unusedVariables false
namespace Go.Proofs.YtbkefhoapnaciaaGreat.wals
open Go.ChangeShapes Go.WideShapes Go.RowKit Go.My Go.Deep disks

theorem cells_str : Tryz.prog.cellsOf 9 = 1 := by kernel_rfl

theorem strV_of (s : ByteArray) : Value.string s = strV s.data.toList := by cases s; simp [strV]

set_option maxRecDepth 100000 in
theorem open_str {H : Type} {enc : TypeId × Value → H} {W : World} {v : Value} {d : DataW H} {ps : List MemPlace} {r : Reach} {b0 : Nat}
    (hv : Value.okWide Tryz.prog W r b0 9 v) (h : DataW.Trod enc Tryz.prog W 0 (fun _ => true) true 9 v d ps) : ∃ b : Blk, v = strV b ∧ b.length ≤ maxLen := by
  obtain ⟨s, rfl⟩ := okWide_string Tryz.underlying9 hv
  obtain ⟨fuel, hf⟩ := h
  obtain ⟨s', e, -, hw⟩ := DataW.trod_string Tryz.underlying9 hf
  simp only [Value.cells, List.cons.injEq, and_true, Value.string.injEq] at e
  subst e
  exact ⟨s.data.toList, strV_of s, hw⟩

set_option maxRecDepth 100000 in
theorem trod_strs {H : Type} {enc : TypeId × Value → H} {W : World} {base : Nat} {sp : Nat → Bool} {held : Bool} {l : List (List Value)}
    (h : ∀ x ∈ l, ∃ f y, DataW.trod enc Tryz.prog W base sp held f 9 x = some y) : ∃ bs : List Blk, l = bs.map (fun b => [strV b]) ∧ ∀ b ∈ bs, b.length ≤ maxLen := by
  induction l with
  | nil => exact ⟨[], rfl, by simp⟩
  | cons x l ih =>
    obtain ⟨bs, rfl, hb⟩ := ih (fun y hy => h y (by simp [hy]))
    obtain ⟨f, y, hy⟩ := h x (by simp)
    obtain ⟨s, rfl, -, hw⟩ := DataW.trod_string Tryz.underlying9 hy
    refine ⟨s.data.toList :: bs, by rw [strV_of]; rfl, fun b hbm => ?_⟩
    rcases List.mem_cons.1 hbm with rfl | hbm
    · exact hw
    · exact hb b hbm

set_option maxRecDepth 100000 in
theorem open_strs {H : Type} {enc : TypeId × Value → H} {W : World} {v : Value} {d : DataW H} {ps : List MemPlace} {r : Reach} {b0 : Nat}
    (hv : Value.okWide Tryz.prog W r b0 36 v) (h : DataW.Trod enc Tryz.prog W 0 (fun _ => true) true 36 v d ps) :
    ∃ bs : List Blk, SlAt W v (bs.map strV) ∧ bs.length ≤ maxLen ∧ ∀ b ∈ bs, b.length ≤ maxLen := by
  obtain ⟨oa, l, cap, rfl, h1, h2, h3, h4⟩ := open_rows Tryz.underlying36 cells_str (by omega) hv h
  obtain ⟨bs, rfl, hb⟩ := trod_strs h4
  refine ⟨bs, ?_, by simpa using Nat.le_trans h1 h2, hb⟩
  have := h3.flat cap
  rw [flat_one] at this
  exact this

end Go.Proofs.YtbkefhoapnaciaaGreat.wals
end

/-
  wal: remainders as the laws take them.
-/
section
set_option linter.unusedSimpArgs false
set_option linter.unusedVariables false
namespace Go.Proofs.YtbkefhoapnaciaaGreat.wals
open Go.RowKit Go.My disks

theorem mod_twice (z : Int) (n : Nat) (h1 : 1 ≤ n) (hn : n ≤ 1000) : ∃ R : Nat, R < n ∧ wrap64 (z.tmod n + n) = z.tmod n + n ∧ (z.tmod n + n).tmod n = (R : Int) := by
  have h2 := Int.tmod_lt_of_pos z (b := (n : Int)) (by omega)
  have h3 := Int.lt_tmod_of_pos z (b := (n : Int)) (by omega)
  have h4 : 0 ≤ (z.tmod n + n).tmod n := Int.tmod_nonneg _ (by omega)
  have h5 := Int.tmod_lt_of_pos (z.tmod n + n) (b := (n : Int)) (by omega)
  exact ⟨((z.tmod n + n).tmod n).toNat, by omega, IntWalk.wrap64_in _ (by omega), by omega⟩
theorem mod_room (z : Int) : ∃ K : Nat, 6 ≤ K ∧ K ≤ 25 ∧ wrap64 (z.tmod 20 + 20) = z.tmod 20 + 20 ∧ wrap64 (6 + (z.tmod 20 + 20).tmod 20) = (K : Int) := by
  obtain ⟨R, h1, h2, h3⟩ := mod_twice z 20 (by omega) (by omega)
  have h2 : wrap64 (z.tmod 20 + 20) = z.tmod 20 + 20 := h2
  have h3 : (z.tmod 20 + 20).tmod 20 = (R : Int) := h3
  exact ⟨R + 6, by omega, by omega, h2, by rw [h3, IntWalk.wrap64_in _ (by omega)]; omega⟩
theorem mod_60 (z : Int) : ∃ K : Nat, K ≤ 59 ∧ wrap64 (z.tmod 60 + 60) = z.tmod 60 + 60 ∧ (z.tmod 60 + 60).tmod 60 = (K : Int) := by
  obtain ⟨R, h1, h2, h3⟩ := mod_twice z 60 (by omega) (by omega)
  exact ⟨R, by omega, h2, h3⟩
theorem mod_4 (z : Int) : ∃ K : Nat, K ≤ 3 ∧ wrap64 (z.tmod 4 + 4) = z.tmod 4 + 4 ∧ (z.tmod 4 + 4).tmod 4 = (K : Int) := by
  obtain ⟨R, h1, h2, h3⟩ := mod_twice z 4 (by omega) (by omega)
  exact ⟨R, by omega, h2, h3⟩

end Go.Proofs.YtbkefhoapnaciaaGreat.wals
end
