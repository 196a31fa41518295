/- . -/
import Derived.Test.YtbjagmlbamjdbaaGreatPx1RootOnce
import Derived.Test.YtbjagmlbamjdbaaGreatPx2RootOnce
import Derived.Test.YtbjagmlbamjdbaaGreatPx4RootOnce
import Derived.Test.YtbjagmlbamjdbaaGreatPx6RootOnce
import Derived.Test.YtbjagmlbamjdbaaGreatPx12RootOnce
import Derived.Lib.Strings
import Derived.Lib.Builder
import Derived.Lib.UnsafeStr

set_option linter.unusedSimpArgs false
set_option linter.unusedVariables false
section
namespace Go.Proofs.YtbjagmlbamjdbaaGreat.wals
open Go.My disks

def lvW (recs : List Blk) (s a : Nat) (wait : List Blk) : LV := ⟨s, a, (framesB recs).length, recs, (framesB recs).drop ((framesB recs).length / 64 * 64), wait, sizeB wait, false⟩
theorem Idle.crash {X : DV} (h : Idle X) (keep : List Int) : Idle (X.crash keep) ∧ (X.crash keep).B = X.B := by
  have hb : (X.crash keep).B = X.B := by
    apply List.ext_getElem?
    intro i
    by_cases hi : i < X.B.length
    · exact (crash_keeps X keep hi).2.1 (h.L i)
    · rw [List.getElem?_eq_none (by rw [crash_B_len]; omega), List.getElem?_eq_none (by omega)]
  exact ⟨⟨rfl, fun i => crash_L_nil X keep (fun i _ => h.L i) i, by rw [hb]; exact h.ge, by rw [hb]; exact h.le, by rw [hb]; exact h.w64⟩, hb⟩

theorem Stands.same {X Y : DV} {recs : List Blk} {s a : Nat} (h : Stands X recs s a) (hY : Idle Y) (hB : Y.B = X.B) : Stands Y recs s a :=
  ⟨hY, h.s1, h.area, h.short, by rw [hB]; exact h.fits, by rw [hB]; exact h.head, by rw [hB]; exact h.other, by rw [hB]; exact h.data⟩
theorem Stands.crash {X : DV} {recs : List Blk} {s a : Nat} (h : Stands X recs s a) (keep : List Int) : Stands (X.crash keep) recs s a :=
  h.same (h.idle.crash keep).1 (h.idle.crash keep).2
theorem Blank.crash {X : DV} (h : Blank X) (keep : List Int) : Blank (X.crash keep) :=
  ⟨(h.idle.crash keep).1, by rw [(h.idle.crash keep).2]; exact h.x, by rw [(h.idle.crash keep).2]; exact h.y⟩

theorem Idle.set {X : DV} (h : Idle X) (n : Int) : Idle (X.set n) ∧ (X.set n).B = X.B := by
  unfold DV.set
  split
  · exact ⟨h, rfl⟩
  · exact ⟨⟨h.up, h.L, h.ge, h.le, h.w64⟩, rfl⟩

theorem lvW_ok {X : DV} {recs wait : List Blk} {s a : Nat} (h : Stands X recs s a) (hs : s ≤ 1152921504606846976) (hw : ∀ r ∈ wait, r.length ≤ 4096) (hfit : (framesB recs).length + sizeB wait ≤ 64 * areaN X.B.length) : (lvW recs s a wait).Ok X.B.length where
  ge := h.idle.ge
  le := h.idle.le
  seq := hs
  area := h.area
  fit := hfit
  used := framesB_length recs
  more := rfl
  tail := by show ((framesB recs).drop _).length = (framesB recs).length % 64; rw [List.length_drop]; omega
  short := hw

theorem Idle.zero (n : Nat) (h1 : 6 ≤ n) (h2 : n ≤ 4096) : Idle (DV.new n) where
  up := rfl
  L := fun _ => rfl
  ge := by show 6 ≤ (List.replicate n zeroBlk).length; rw [List.length_replicate]; exact h1
  le := by show (List.replicate n zeroBlk).length ≤ 4096; rw [List.length_replicate]; exact h2
  w64 := fun b hb => by
    have : b = zeroBlk := (List.mem_replicate.1 hb).2
    rw [this]; rfl
theorem Blank.new (n : Nat) (h1 : 6 ≤ n) (h2 : n ≤ 4096) : Blank (DV.new n) := by
  refine ⟨Idle.zero n h1 h2, ?_, ?_⟩
  · show (List.replicate n zeroBlk)[0]? = _
    rw [List.getElem?_replicate, if_pos (by omega)]; rfl
  · show (List.replicate n zeroBlk)[1]? = _
    rw [List.getElem?_replicate, if_pos (by omega)]; rfl
theorem Blank.cur {X : DV} (h : Blank X) : X.cur 0 = zeros 64 ∧ X.cur 1 = zeros 64 := by
  rw [h.idle.cur, h.idle.cur, h.x, h.y]; exact ⟨rfl, rfl⟩

theorem blank_open {X : DV} (h : Blank X) : ∀ R, openF X = R → Goes X R.2.1 ∧ R.2.1.B.length = X.B.length ∧
    ((R.1 = 0 ∧ R.2.2 = some (lvW [] 1 0 []) ∧ Stands R.2.1 [] 1 0) ∨
     (R.1 = 15 ∧ R.2.2 = none ∧ X.fuse ≠ -1 ∧ R.2.1.down = true ∧ (∀ j, (R.2.1.L j).length ≤ 1) ∧ ∀ keep, Blank (R.2.1.crash keep) ∨ Stands (R.2.1.crash keep) [] 1 0)) := by
  rintro R rfl
  have h6 := h.idle.ge
  obtain ⟨g, hl, hp⟩ := putH_spec h.idle.up h.idle.L (by omega) 1 0 0
  have ho : openF X = if (putH X 1 0 0).1 ≠ 0 then ((putH X 1 0 0).1, (putH X 1 0 0).2, none) else (0, (putH X 1 0 0).2, some ⟨1, 0, 0, [], [], [], 0, false⟩) := by
    unfold openF
    rw [if_neg (by simp [h.idle.up]), if_neg (by omega), if_pos h.cur]
  have w64 : ∀ (B : List Blk), B = X.B.set 1 (headB 1 0 0) → ∀ b ∈ B, b.length = 64 := by
    rintro B rfl b hb
    rcases List.mem_or_eq_of_mem_set hb with hb | rfl
    · exact h.idle.w64 b hb
    · exact headB_length _ _ _
  rcases hp with ⟨e, d, l, b⟩ | ⟨e, f, d, b, l⟩
  · rw [ho, if_neg (by simp [e])]
    refine ⟨g, hl, Or.inl ⟨rfl, rfl, h.first ⟨d, l, by rw [hl]; exact h6, by rw [hl]; exact h.idle.le, w64 _ b⟩ b⟩⟩
  · rw [ho, if_pos (by simp [e])]
    refine ⟨g, hl, Or.inr ⟨e, rfl, f, d, fun j => ?_, fun keep => ?_⟩⟩
    · rcases l with l | l
      · show ((putH X 1 0 0).2.L j).length ≤ 1; rw [l]; simp
      · show ((putH X 1 0 0).2.L j).length ≤ 1; rw [l]; split <;> simp
    · show Blank ((putH X 1 0 0).2.crash keep) ∨ Stands ((putH X 1 0 0).2.crash keep) [] 1 0
      generalize (putH X 1 0 0).2 = Y at *
      have hlY : ∀ i, Y.B.length ≤ i → Y.L i = [] := fun i hi => by
        rcases l with l | l
        · exact l i
        · rw [l, if_neg (by omega)]
      have hI : (Y.crash keep).B = X.B ∨ (Y.crash keep).B = X.B.set 1 (headB 1 0 0) := by
        have hother : ∀ i, i ≠ 1 → (Y.crash keep).B[i]? = X.B[i]? := fun i hi => by
          by_cases hlt : i < Y.B.length
          · have hLi : Y.L i = [] := by
              rcases l with l | l
              · exact l i
              · rw [l, if_neg (by omega)]
            rw [(crash_keeps Y keep hlt).2.1 hLi, b]
          · rw [List.getElem?_eq_none (by rw [crash_B_len]; omega), List.getElem?_eq_none (by omega)]
        rcases crash_mem Y keep (i := 1) (by omega) with e1 | ⟨x, hx, e1⟩
        · refine Or.inl (List.ext_getElem? (fun i => ?_))
          by_cases hi : i = 1
          · subst hi; rw [e1, b]
          · exact hother i hi
        · refine Or.inr (List.ext_getElem? (fun i => ?_))
          by_cases hi : i = 1
          · subst hi
            rw [e1, List.getElem?_set_self (by omega)]
            rcases l with l | l
            · rw [l] at hx; cases hx
            · rw [l, if_pos rfl, List.mem_singleton] at hx; rw [hx]
          · rw [hother i hi, List.getElem?_set_ne (fun e => hi e.symm)]
      have hId : Idle (Y.crash keep) := by
        refine ⟨rfl, fun i => crash_L_nil Y keep hlY i, by rw [crash_B_len, hl]; exact h6, by rw [crash_B_len, hl]; exact h.idle.le, ?_⟩
        rcases hI with e1 | e1
        · rw [e1]; exact h.idle.w64
        · exact w64 _ e1
      rcases hI with e1 | e1
      · exact Or.inl ⟨hId, by rw [e1]; exact h.x, by rw [e1]; exact h.y⟩
      · exact Or.inr (h.first hId e1)

theorem Stands.picks {X : DV} {recs : List Blk} {s a : Nat} (h : Stands X recs s a) (hs : s ≤ 1152921504606846976) : ¬ (X.cur 0 = zeros 64 ∧ X.cur 1 = zeros 64) ∧ pick (readH (X.cur 0) 0 (64 * areaN X.B.length)) (readH (X.cur 1) 1 (64 * areaN X.B.length)) = some (s, a, (framesB recs).length) := by
  have hm : 64 * areaN X.B.length < 4294967296 := by have := areaN_le h.idle.le; omega
  have h1 := h.s1
  have hrd := readH_head (s := s) (a := a) (u := (framesB recs).length) (pl := s % 2) (most := 64 * areaN X.B.length) h1 hs rfl h.area h.fits hm
  have ho : readH (X.cur (1 - s % 2)) (1 - s % 2) (64 * areaN X.B.length) = none ∨ ∃ a' u', readH (X.cur (1 - s % 2)) (1 - s % 2) (64 * areaN X.B.length) = some (s - 1, a', u') := by
    rw [h.idle.cur]
    rcases h.other with e | ⟨a', u', e, h2, h3, h4⟩
    · rw [e]; exact Or.inl (readH_zeros _ _)
    · rw [e]; exact Or.inr ⟨a', u', readH_head (by omega) (by omega) (by omega) h3 h4 hm⟩
  have hc : X.cur (s % 2) = headB s a (framesB recs).length := by rw [h.idle.cur, h.head]; rfl
  constructor
  · rintro ⟨e0, e1⟩
    have : s % 2 = 0 ∨ s % 2 = 1 := by omega
    rcases this with e | e
    · rw [e, e0] at hc; exact headB_ne _ _ _ hc.symm
    · rw [e, e1] at hc; exact headB_ne _ _ _ hc.symm
  · have : s % 2 = 0 ∨ s % 2 = 1 := by omega
    rcases this with e | e
    · rw [e] at hrd hc ho
      rw [hc, hrd]
      rcases ho with ho | ⟨a', u', ho⟩
      · rw [show X.cur 1 = X.cur (1 - 0) from rfl, show readH (X.cur (1 - 0)) 1 = readH (X.cur (1 - 0)) (1 - 0) from rfl, ho]; rfl
      · rw [show X.cur 1 = X.cur (1 - 0) from rfl, show readH (X.cur (1 - 0)) 1 = readH (X.cur (1 - 0)) (1 - 0) from rfl, ho]
        show (if s < s - 1 then _ else _) = _
        rw [if_neg (by omega)]
    · rw [e] at hrd hc ho
      rw [hc, hrd]
      rcases ho with ho | ⟨a', u', ho⟩
      · rw [show X.cur 0 = X.cur (1 - 1) from rfl, show readH (X.cur (1 - 1)) 0 = readH (X.cur (1 - 1)) (1 - 1) from rfl, ho]; rfl
      · rw [show X.cur 0 = X.cur (1 - 1) from rfl, show readH (X.cur (1 - 1)) 0 = readH (X.cur (1 - 1)) (1 - 1) from rfl, ho]
        show (if s - 1 < s then _ else _) = _
        rw [if_pos (by omega)]

theorem Stands.bytes {X : DV} {recs : List Blk} {s a : Nat} (h : Stands X recs s a) : (bytesOf X (firstN X.B.length a) (((framesB recs).length + 63) / 64)).take (framesB recs).length = framesB recs := by
  have hi := area_in h.idle.ge h.area
  have hf := h.fits
  exact data_read h.idle h.data (by omega)

theorem sync_lv {X : DV} {recs wait : List Blk} {s a : Nat} (h : Stands X recs s a) (hw : ∀ r ∈ wait, r.length ≤ 4096) (hfit : (framesB recs).length + sizeB wait ≤ 64 * areaN X.B.length) :
    ∀ R, syncF X (lvW recs s a wait) = R → Goes X R.2.1 ∧ R.2.1.B.length = X.B.length ∧
    ((R.1 = 0 ∧ ∃ s', s ≤ s' ∧ s' ≤ s + 1 ∧ Stands R.2.1 (recs ++ wait) s' a ∧ R.2.2 = lvW (recs ++ wait) s' a []) ∨
     (R.1 = 15 ∧ X.fuse ≠ -1 ∧ R.2.1.down = true ∧ (∀ j, (R.2.1.L j).length ≤ 1) ∧ R.2.2 = { lvW recs s a wait with lost := true } ∧ ∀ keep, Stands (R.2.1.crash keep) recs s a ∨ Stands (R.2.1.crash keep) (recs ++ wait) (s + 1) a)) := by
  rintro R rfl
  by_cases hn : wait = []
  · subst hn
    have : syncF X (lvW recs s a []) = (0, X, lvW recs s a []) := by unfold syncF; rw [if_neg (by simp [lvW]), if_pos (show (lvW recs s a []).wait = [] from rfl)]
    rw [this]
    exact ⟨Goes.refl X, rfl, Or.inl ⟨rfl, s, Nat.le_refl _, by omega, by rw [List.append_nil]; exact h, by rw [List.append_nil]⟩⟩
  · have hfa : framesB (recs ++ wait) = framesB recs ++ framesB wait := framesB_append _ _
    have hfl : (framesB (recs ++ wait)).length = (framesB recs).length + (framesB wait).length := by rw [hfa, List.length_append]
    have hsp := sync_spec h hw (by rw [hfl, framesB_length wait]; exact hfit) _ rfl
    have hl : ∀ Q, layF X (firstN X.B.length a + (framesB recs).length / 64) ((framesB recs).drop ((framesB recs).length / 64 * 64) ++ framesB wait) (s + 1) a (framesB (recs ++ wait)).length = Q →
      syncF X (lvW recs s a wait) = if Q.1 ≠ 0 then (Q.1, Q.2, { lvW recs s a wait with lost := true }) else (0, Q.2, ⟨s + 1, a, (framesB (recs ++ wait)).length, recs ++ wait, ((framesB recs).drop ((framesB recs).length / 64 * 64) ++ framesB wait).drop (((framesB recs).drop ((framesB recs).length / 64 * 64) ++ framesB wait).length / 64 * 64), [], 0, false⟩) := by
      rintro Q rfl
      rw [hfl]
      unfold syncF
      rw [if_neg (by simp [lvW]), if_neg (by simpa [lvW] using hn)]
      rfl
    have htail : ((framesB recs).drop ((framesB recs).length / 64 * 64) ++ framesB wait).drop (((framesB recs).drop ((framesB recs).length / 64 * 64) ++ framesB wait).length / 64 * 64) = (framesB (recs ++ wait)).drop ((framesB (recs ++ wait)).length / 64 * 64) := by
      have e1 : (framesB recs).drop ((framesB recs).length / 64 * 64) ++ framesB wait = (framesB (recs ++ wait)).drop ((framesB recs).length / 64 * 64) := by
        rw [hfa, List.drop_append_of_le_length (by omega)]
      rw [e1, List.drop_drop, List.length_drop]
      congr 1
      omega
    generalize hQ : layF X (firstN X.B.length a + (framesB recs).length / 64) ((framesB recs).drop ((framesB recs).length / 64 * 64) ++ framesB wait) (s + 1) a (framesB (recs ++ wait)).length = Q at hsp
    rw [hl Q hQ]
    obtain ⟨g, hbl, hr⟩ := hsp
    rcases hr with ⟨e, hst⟩ | ⟨e, f, d, q, hk⟩
    · rw [if_neg (by simp [e])]
      exact ⟨g, hbl, Or.inl ⟨rfl, s + 1, by omega, Nat.le_refl _, hst, by rw [htail]; rfl⟩⟩
    · rw [if_pos (by simp [e])]
      exact ⟨g, hbl, Or.inr ⟨e, f, d, q, rfl, hk⟩⟩

theorem reset_lv {X : DV} {recs recs2 wait : List Blk} {s a : Nat} (h : Stands X recs s a) :
    ∀ R, resetF X (lvW recs s a wait) recs2 = R →
    ((wait ≠ [] ∧ R = (11, X, lvW recs s a wait)) ∨ (wait = [] ∧ (∃ r ∈ recs2, 4096 < r.length) ∧ R = (3, X, lvW recs s a [])) ∨ (wait = [] ∧ (∀ r ∈ recs2, r.length ≤ 4096) ∧ 64 * areaN X.B.length < sizeB recs2 ∧ R = (7, X, lvW recs s a [])) ∨
     (wait = [] ∧ (∀ r ∈ recs2, r.length ≤ 4096) ∧ sizeB recs2 ≤ 64 * areaN X.B.length ∧ Goes X R.2.1 ∧ R.2.1.B.length = X.B.length ∧
      ((R.1 = 0 ∧ Stands R.2.1 recs2 (s + 1) (1 - a) ∧ R.2.2 = lvW recs2 (s + 1) (1 - a) []) ∨
       (R.1 = 15 ∧ X.fuse ≠ -1 ∧ R.2.1.down = true ∧ (∀ j, (R.2.1.L j).length ≤ 1) ∧ R.2.2 = { lvW recs s a [] with lost := true } ∧ ∀ keep, Stands (R.2.1.crash keep) recs s a ∨ Stands (R.2.1.crash keep) recs2 (s + 1) (1 - a))))) := by
  rintro R rfl
  by_cases hn : wait = []
  · subst hn
    by_cases hb : ∃ r ∈ recs2, 4096 < r.length
    · refine Or.inr (Or.inl ⟨rfl, hb, ?_⟩)
      unfold resetF
      rw [if_neg (by simp [lvW]), if_neg (by simp [lvW]), if_pos hb]
    · have hb' : ∀ r ∈ recs2, r.length ≤ 4096 := fun r hr => Nat.le_of_not_lt (fun h => hb ⟨r, hr, h⟩)
      by_cases hf : 64 * areaN X.B.length < sizeB recs2
      · refine Or.inr (Or.inr (Or.inl ⟨rfl, hb', hf, ?_⟩))
        unfold resetF
        rw [if_neg (by simp [lvW]), if_neg (by simp [lvW]), if_neg hb, if_pos hf]
      · refine Or.inr (Or.inr (Or.inr ⟨rfl, hb', by omega, ?_⟩))
        have hsp := reset_spec h hb' (by rw [framesB_length]; omega) _ rfl
        have hl : ∀ Q, layF X (firstN X.B.length (1 - a)) (framesB recs2) (s + 1) (1 - a) (framesB recs2).length = Q →
          resetF X (lvW recs s a []) recs2 = if Q.1 ≠ 0 then (Q.1, Q.2, { lvW recs s a [] with lost := true }) else (0, Q.2, lvW recs2 (s + 1) (1 - a) []) := by
          rintro Q rfl
          unfold resetF
          rw [if_neg (by simp [lvW]), if_neg (by simp [lvW]), if_neg hb, if_neg hf]
          rfl
        generalize hQ : layF X (firstN X.B.length (1 - a)) (framesB recs2) (s + 1) (1 - a) (framesB recs2).length = Q at hsp
        rw [hl Q hQ]
        obtain ⟨g, hbl, hr⟩ := hsp
        rcases hr with ⟨e, hst⟩ | ⟨e, f, d, q, hk⟩
        · rw [if_neg (by simp [e])]
          exact ⟨g, hbl, Or.inl ⟨rfl, hst, rfl⟩⟩
        · rw [if_pos (by simp [e])]
          exact ⟨g, hbl, Or.inr ⟨e, f, d, q, rfl, hk⟩⟩
  · refine Or.inl ⟨hn, ?_⟩
    unfold resetF
    rw [if_neg (by simp [lvW]), if_pos (by simpa [lvW] using hn)]

theorem add_lv {n : Nat} {recs wait : List Blk} {s a : Nat} (r : Blk) : addF n (lvW recs s a wait) r =
    if 4096 < r.length then (3, lvW recs s a wait) else if roomF n (lvW recs s a wait) < (r.length : Int) + 8 then (7, lvW recs s a wait) else (0, lvW recs s a (wait ++ [r])) := by
  unfold addF
  rw [if_neg (by simp [lvW])]
  have : sizeB (wait ++ [r]) = sizeB wait + (r.length + 8) := by simp [sizeB]
  show (if _ then _ else if _ then _ else _) = _
  rw [show lvW recs s a (wait ++ [r]) = { lvW recs s a wait with wait := wait ++ [r], more := sizeB wait + (r.length + 8) } by unfold lvW; rw [this]]
  rfl

end Go.Proofs.YtbjagmlbamjdbaaGreat.wals
end

section
namespace Go.Proofs.YtbjagmlbamjdbaaGreat.wals
open Go.RowKit Go.My disks bufs
set_option maxRecDepth 100000

variable {w w' : World} {l d : Nat} {F Fd : Nat → Prop} {X : DV} {V : LV} {rv tv wv : Value}

theorem Idle.cur64 {X : DV} (h : Idle X) : ∀ i, i < X.B.length → (X.cur i).length = 64 := fun i hi => by
  rw [h.cur, List.getElem?_eq_getElem hi]
  exact h.w64 _ (List.getElem_mem hi)

theorem open_of_stands (w : World) (h : DiskAt w d Fd X) {recs : List Blk} {s a : Nat} (hs : Stands X recs s a) (h60 : s ≤ 1152921504606846976) (hf : X.fuse ≤ 9223372036854775807) :
    Calls Tryz.prog 58 #[.pointer (some ⟨d, 0, none⟩)] w (OpenPost w d Fd (0, X, some (lvW recs s a []))) :=
  open_stands w h hs.idle.up hs.idle.ge hs.idle.le hf (fun j => by rw [hs.idle.L]; simp) hs.idle.cur64 (hs.picks h60).1 s a _ (hs.picks h60).2 hs.area hs.fits recs hs.short hs.bytes

theorem open_of_blank (w : World) (h : DiskAt w d Fd X) (hb : Blank X) (hf : X.fuse ≤ 9223372036854775807) :
    Calls Tryz.prog 58 #[.pointer (some ⟨d, 0, none⟩)] w (OpenPost w d Fd (openF X)) :=
  open_blank w h hb.idle.up hb.idle.ge hb.idle.le hf (fun j => by rw [hb.idle.L]; simp) hb.cur.1 hb.cur.2

theorem open_new (w : World) (h : DiskAt w d Fd X) (hb : Blank X) (hf : X.fuse = -1) :
    Calls Tryz.prog 58 #[.pointer (some ⟨d, 0, none⟩)] w fun e w' => ∃ l F' Fd' X', e = .returned (.tuple #[.pointer (some ⟨l, 0, none⟩), .int .i64 0]) ∧ LogAt w' l d F' Fd' X' (lvW [] 1 0 []) ∧ Stands X' [] 1 0 ∧ X'.fuse = -1 ∧ X'.B.length = X.B.length ∧
      (∀ k, F' k → w.heap.size ≤ k) ∧ (∀ k, Fd' k → Fd k ∨ w.heap.size ≤ k) ∧ Chg Fd w w' := by
  refine (open_of_blank w h hb (by omega)).mono ?_
  rintro e w' ⟨Fd', h1, h2, h3⟩
  obtain ⟨g, hl, hr⟩ := blank_open hb _ rfl
  rcases hr with ⟨e1, e2, e3⟩ | ⟨e1, e2, e3, -⟩
  · rcases h3 with ⟨V, l, F', k1, k2, k3, k4⟩ | ⟨k1, -⟩
    · rw [e2] at k1
      cases k1
      exact ⟨l, F', Fd', _, k2, k3, e3, g.free hf, hl, k4, h1, h2⟩
    · rw [e2] at k1; cases k1
  · exact absurd hf e3

end Go.Proofs.YtbjagmlbamjdbaaGreat.wals
end

section
namespace Go.Proofs.YtbjagmlbamjdbaaGreat.wals
open Go.RowKit Go.My disks bufs
set_option maxRecDepth 100000

variable {w w' : World}

theorem str_take (r : Blk) (n : Nat) : (⟨r.toArray⟩ : ByteArray).extract 0 n = ⟨(r.take n).toArray⟩ := by
  rw [Lib.extract_eq]; simp

theorem row_cell {w : World} {base n : Nat} {oa : Option Addr} {m cap : Nat} {l : List Blk} (h : w.ownsRow base 9 1 (.slice oa m cap) n (l.map strV)) {k : Nat} {r : Blk} (hr : l[k]? = some r) :
    ∃ g, oa = some ⟨g, 0, none⟩ ∧ base ≤ g ∧ g < w.heap.size ∧ ∀ (S : Nat → Prop) w', Chg S w w' → ¬ S g → w'.cell? ⟨g, k, none⟩ = some (strV r) := by
  have hk : k < l.length := (List.getElem?_eq_some_iff.1 hr).1
  rcases h.2 with ⟨h1, h0⟩ | ⟨g, c, cur, h1, hb, hg, -⟩
  · have := h.1
    rw [List.length_map] at this
    omega
  · simp only [Value.slice.injEq] at h1
    obtain ⟨rfl, -, -⟩ := h1
    refine ⟨g, rfl, hb, lt_of_block hg, fun S w' hc hS => ?_⟩
    have h2 := row_kept h hc (fun g' hg' => by simp only [Value.ownBlock, Option.some.injEq] at hg'; rw [← hg']; exact hS)
    obtain ⟨b, off, e1, -, e3⟩ := SlAt.cell (SlAt.of_own h2) (k := k) (by rw [List.length_map]; exact hk)
    simp only [Option.some.injEq, Addr.mk.injEq, and_true] at e1
    obtain ⟨rfl, rfl⟩ := e1
    rw [Nat.zero_add] at e3
    rw [e3, List.getElem_map]
    congr 2
    exact (List.getElem?_eq_some_iff.1 hr).2

end Go.Proofs.YtbjagmlbamjdbaaGreat.wals
end

section
namespace Go.Proofs.YtbjagmlbamjdbaaGreat.wals
open Go.RowKit Go.My disks bufs
set_option maxRecDepth 100000

variable {w w' : World} {l d : Nat} {F Fd : Nat → Prop} {X : DV} {V : LV} {rv tv wv : Value}

theorem DV.new_len (n : Nat) : (DV.new n).B.length = n := by show (List.replicate n zeroBlk).length = n; rw [List.length_replicate]

structure WAt (P : Nat → Prop) (W w : World) (l d : Nat) (X : DV) (V : LV) : Prop where
  at' : ∃ F Fd, LogAt w l d F Fd X V ∧ ∀ k, F k ∨ Fd k → P k ∨ W.heap.size ≤ k
  chg : Chg P W w
structure DAt (P : Nat → Prop) (W w : World) (d : Nat) (X : DV) : Prop where
  at' : ∃ Fd, DiskAt w d Fd X ∧ ∀ k, Fd k → P k ∨ W.heap.size ≤ k
  chg : Chg P W w

variable {W : World} {P : Nat → Prop}
theorem chg_more {S : Nat → Prop} (h : Chg P W w) (hc : Chg S w w') (hs : ∀ k, S k → P k ∨ W.heap.size ≤ k) : Chg P W w' :=
  h.trans hc (fun k hk hS => (hs k hS).elim id (fun h => by omega))
theorem WAt.fresh (h : WAt P W w l d X V) (hc : Chg (fun _ => False) w w') : WAt P W w' l d X V := by
  obtain ⟨⟨F, Fd, h1, h2⟩, h3⟩ := h
  exact ⟨⟨F, Fd, h1.fresh hc, h2⟩, chg_more h3 hc (fun _ h => h.elim)⟩
theorem DAt.fresh (h : DAt P W w d X) (hc : Chg (fun _ => False) w w') : DAt P W w' d X := by
  obtain ⟨⟨Fd, h1, h2⟩, h3⟩ := h
  exact ⟨⟨Fd, h1.fresh hc, h2⟩, chg_more h3 hc (fun _ h => h.elim)⟩
theorem WAt.disk (h : WAt P W w l d X V) : DAt P W w d X := by
  obtain ⟨⟨F, Fd, h1, h2⟩, h3⟩ := h
  exact ⟨⟨Fd, h1.disk, fun k hk => h2 k (Or.inr hk)⟩, h3⟩
def NowP (P : Nat → Prop) (W w : World) : Nat → Prop := fun k => (P k ∨ W.heap.size ≤ k) ∧ k < w.heap.size
theorem WAt.now (h : WAt P W w l d X V) : WAt (NowP P W w) w w l d X V := by
  obtain ⟨⟨F, Fd, h1, h2⟩, h3⟩ := h
  exact ⟨⟨F, Fd, h1, fun k hk => Or.inl ⟨h2 k hk, h1.lt k hk⟩⟩, Chg.refl _ _⟩
theorem WAt.rest (h : WAt P W w l d X V) (hc : Chg (fun _ => False) w w') : WAt (NowP P W w) w' w' l d X V := by
  obtain ⟨⟨F, Fd, h1, h2⟩, h3⟩ := h
  exact ⟨⟨F, Fd, h1.fresh hc, fun k hk => Or.inl ⟨h2 k hk, h1.lt k hk⟩⟩, Chg.refl _ _⟩
theorem DAt.rest (h : DAt P W w d X) (hc : Chg (fun _ => False) w w') : DAt (NowP P W w) w' w' d X := by
  obtain ⟨⟨Fd, h1, h2⟩, h3⟩ := h
  exact ⟨⟨Fd, h1.fresh hc, fun k hk => Or.inl ⟨h2 k hk, h1.lt k hk⟩⟩, Chg.refl _ _⟩
theorem chg_now {w0 : World} (h : Chg P W w0) (hc : Chg (NowP P W w) w0 w') : Chg P W w' :=
  chg_more h hc (fun _ hk => hk.1)
theorem WAt.back {w0 : World} (hl : WAt (NowP P W w) w0 w' l d X V) (h : Chg P W w0) : WAt P W w' l d X V := by
  obtain ⟨⟨F, Fd, h1, h2⟩, h3⟩ := hl
  exact ⟨⟨F, Fd, h1, fun k hk => (h2 k hk).elim (fun h => h.1) (fun h' => Or.inr (Nat.le_trans h.size h'))⟩, chg_more h h3 (fun _ hk => hk.1)⟩

theorem wat_records (h : WAt P W w l d X V) (hr : V.recs.length ≤ 131008) : Calls Tryz.prog 59 #[.pointer (some ⟨l, 0, none⟩)] w fun e w' => ∃ v, e = .returned v ∧ w'.ownsRow w.heap.size 9 1 v V.recs.length (V.recs.map strV) ∧ Chg (fun _ => False) w w' := by
  obtain ⟨⟨F, Fd, h1, h2⟩, h3⟩ := h
  exact records_any w h1 hr
theorem WAt.post (h3 : Chg P W w) {F' Fd' : Nat → Prop} {l' : Nat} {X' : DV} {V' : LV} (h2 : ∀ k, F k ∨ Fd k → P k ∨ W.heap.size ≤ k) (k1 : LogAt w' l' d F' Fd' X' V') (k2 : ∀ k, F' k → F k ∨ w.heap.size ≤ k) (k3 : ∀ k, Fd' k → Fd k ∨ w.heap.size ≤ k) {S : Nat → Prop} (hS : ∀ k, S k → F k ∨ Fd k) (k4 : Chg S w w') : WAt P W w' l' d X' V' :=
  ⟨⟨F', Fd', k1, fun k hk => hk.elim (fun h => (k2 k h).elim (fun h => h2 k (Or.inl h)) (fun h => Or.inr (Nat.le_trans h3.size h))) (fun h => (k3 k h).elim (fun h => h2 k (Or.inr h)) (fun h => Or.inr (Nat.le_trans h3.size h)))⟩, chg_more h3 k4 (fun k hk => h2 k (hS k hk))⟩
theorem wat_add (h : WAt P W w l d X V) (hV : V.Ok X.B.length) (r : Blk) (hr : r.length ≤ 1000000000000) : Calls Tryz.prog 67 #[.pointer (some ⟨l, 0, none⟩), strV r] w fun e w' => e = .returned (.int .i64 ((addF X.B.length V r).1 : Int)) ∧ WAt P W w' l d X (addF X.B.length V r).2 := by
  obtain ⟨⟨F, Fd, h1, h2⟩, h3⟩ := h
  refine (add_any w h1 hV r hr).mono ?_
  rintro e w' ⟨rfl, F', k1, k2, k3⟩
  exact ⟨rfl, WAt.post h3 h2 k1 k2 (fun k hk => Or.inl hk) (fun k hk => Or.inl hk) k3⟩
theorem wat_sync (h : WAt P W w l d X V) (hV : V.Ok X.B.length) (hf : X.fuse ≤ 9223372036854775807) (hL : ∀ j, (X.L j).length < 500000) : Calls Tryz.prog 68 #[.pointer (some ⟨l, 0, none⟩)] w fun e w' => e = .returned (.int .i64 (syncF X V).1) ∧ WAt P W w' l d (syncF X V).2.1 (syncF X V).2.2 := by
  obtain ⟨⟨F, Fd, h1, h2⟩, h3⟩ := h
  refine (sync_any w h1 hV hf hL).mono ?_
  rintro e w' ⟨rfl, F', Fd', k1, k2, k3, k4⟩
  exact ⟨rfl, WAt.post h3 h2 k1 k2 k3 (fun _ h => h) k4⟩
theorem wat_reset (h : WAt P W w l d X V) (hV : V.Ok X.B.length) (hf : X.fuse ≤ 9223372036854775807) (hL : ∀ j, (X.L j).length < 500000) (recs : List Blk) (rsv : Value) (hrs : SlAt w rsv (recs.map strV)) (hbf : ∀ g, rsv.ownBlock = some g → ¬ P g ∧ g < W.heap.size) (hn : recs.length ≤ 1000000000) (hlen : ∀ r ∈ recs, r.length ≤ 1000000000000) :
    Calls Tryz.prog 70 #[.pointer (some ⟨l, 0, none⟩), rsv] w fun e w' => e = .returned (.int .i64 (resetF X V recs).1) ∧ WAt P W w' l d (resetF X V recs).2.1 (resetF X V recs).2.2 := by
  obtain ⟨⟨F, Fd, h1, h2⟩, h3⟩ := h
  refine (reset_any w h1 hV hf hL recs rsv hrs (fun g hg hF => (h2 g hF).elim (hbf g hg).1 (fun h => by have := (hbf g hg).2; omega)) hn hlen).mono ?_
  rintro e w' ⟨rfl, F', Fd', k1, k2, k3, k4⟩
  exact ⟨rfl, WAt.post h3 h2 k1 k2 k3 (fun _ h => h) k4⟩
theorem WAt.opened (h3 : Chg P W w) {F' Fd' Fd : Nat → Prop} {l' : Nat} {X' : DV} {V' : LV} (h2 : ∀ k, Fd k → P k ∨ W.heap.size ≤ k) (k1 : LogAt w' l' d F' Fd' X' V') (k2 : ∀ k, F' k → w.heap.size ≤ k) (k3 : ∀ k, Fd' k → Fd k ∨ w.heap.size ≤ k) (k4 : Chg Fd w w') : WAt P W w' l' d X' V' :=
  WAt.post (F := fun _ => False) h3 (fun k hk => hk.elim (fun h => h.elim) (h2 k)) k1 (fun k hk => Or.inr (k2 k hk)) k3 (fun k hk => Or.inr hk) k4
theorem wat_open (h : DAt P W w d X) {recs : List Blk} {s a : Nat} (hs : Stands X recs s a) (h60 : s ≤ 1152921504606846976) (hf : X.fuse ≤ 9223372036854775807) :
    Calls Tryz.prog 58 #[.pointer (some ⟨d, 0, none⟩)] w fun e w' => ∃ l, e = .returned (.tuple #[.pointer (some ⟨l, 0, none⟩), .int .i64 0]) ∧ WAt P W w' l d X (lvW recs s a []) := by
  obtain ⟨⟨Fd, h1, h2⟩, h3⟩ := h
  refine (open_of_stands w h1 hs h60 hf).mono ?_
  rintro e w' ⟨Fd', k1, k2, k3⟩
  rcases k3 with ⟨V, l, F', j1, j2, j3, j4⟩ | ⟨j1, -⟩
  · cases j1
    exact ⟨l, j2, WAt.opened h3 h2 j3 j4 k1 k2⟩
  · cases j1
theorem wat_open_new (h : DAt P W w d X) (hb : Blank X) (hf : X.fuse = -1) :
    Calls Tryz.prog 58 #[.pointer (some ⟨d, 0, none⟩)] w fun e w' => ∃ l X', e = .returned (.tuple #[.pointer (some ⟨l, 0, none⟩), .int .i64 0]) ∧ WAt P W w' l d X' (lvW [] 1 0 []) ∧ Stands X' [] 1 0 ∧ X'.fuse = -1 ∧ X'.B.length = X.B.length := by
  obtain ⟨⟨Fd, h1, h2⟩, h3⟩ := h
  refine (open_new w h1 hb hf).mono ?_
  rintro e w' ⟨l, F', Fd', X', rfl, j3, j5, j6, j7, j4, k1, k2⟩
  exact ⟨l, X', rfl, WAt.opened h3 h2 j3 j4 k1 k2, j5, j6, j7⟩
theorem dat_new (w : World) (n : Nat) (h1 : 1 ≤ n) (hn : n ≤ 4096) : Calls Tryz.prog 25 #[.int .i64 (n : Int)] w fun e w' => ∃ d, e = .returned (.tuple #[.pointer (some ⟨d, 0, none⟩), .int .i64 0]) ∧ DAt (fun _ => False) w w' d (DV.new n) := by
  refine (disks.new_any w n h1 hn).mono ?_
  rintro e w' ⟨d, rfl, k1, k2⟩
  exact ⟨d, rfl, ⟨_, k1, fun k hk => Or.inr hk.1⟩, k2⟩

end Go.Proofs.YtbjagmlbamjdbaaGreat.wals
end

section
namespace Go.Proofs.YtbjagmlbamjdbaaGreat.wals
open Go.RowKit Go.My disks bufs
set_option maxRecDepth 100000

variable {w w' W : World} {l d : Nat} {F Fd P : Nat → Prop} {X : DV} {V : LV}

structure Kp (P : Nat → Prop) (W : World) (v : Value) (l : List Blk) : Prop where
  at' : ∀ w', Chg P W w' → SlAt w' v (l.map strV)
  off : ∀ g, v.ownBlock = some g → ¬ P g ∧ g < W.heap.size

theorem Kp.of_own {base n : Nat} {v : Value} {rs : List Blk} (h : W.ownsRow base 9 1 v n (rs.map strV)) (hP : ∀ g, base ≤ g → ¬ P g) : Kp P W v rs :=
  ⟨fun _ hc => SlAt.of_own (row_kept h hc (fun g hg => hP g (h.lt g hg).1)), fun g hg => ⟨hP g (h.lt g hg).1, (h.lt g hg).2⟩⟩
theorem Kp.now {v : Value} {rs : List Blk} (h : Kp P W v rs) (hc : Chg P W w) : Kp (NowP P W w) w v rs :=
  ⟨fun w' h' => h.at' w' (chg_now hc h'), fun g hg => ⟨fun hN => hN.1.elim (h.off g hg).1 (fun h' => by have := (h.off g hg).2; omega), Nat.lt_of_lt_of_le (h.off g hg).2 hc.size⟩⟩
theorem Kp.fresh {v : Value} {rs : List Blk} (h : Kp P W v rs) (hc : Chg (fun _ => False) W w) : Kp P w v rs :=
  ⟨fun w' h' => h.at' w' ((hc.mono (fun _ _ h => h.elim)).trans' h'), fun g hg => ⟨(h.off g hg).1, Nat.lt_of_lt_of_le (h.off g hg).2 hc.size⟩⟩
theorem Kp.nil (v : Value) (n : Nat) (hv : v = .slice none 0 n) : Kp P W v [] := by
  subst hv
  exact ⟨fun _ _ => ⟨none, n, rfl, fun h => absurd rfl h, by simp⟩, fun g hg => by simp [Value.ownBlock] at hg⟩

end Go.Proofs.YtbjagmlbamjdbaaGreat.wals
end

section
namespace Go.Proofs.YtbjagmlbamjdbaaGreat.kvs
open Go.RowKit Go.My disks bufs wals
set_option maxRecDepth 100000

variable {w w' : World}

def PV.row (p : PV) : List Value := [strV p.key, strV p.val, .bool p.gone]

theorem str_size (b : Txt) (s : ByteArray) (h : strV b = .string s) : s.size = b.length := by
  have : Value.string (⟨b.toArray⟩ : ByteArray) = .string s := h
  simp only [Value.string.injEq] at this
  rw [← this]; simp [ByteArray.size]
theorem str_nil (b : Txt) (s : ByteArray) (h : strV b = .string s) : (s.toList == ([] : List UInt8)) = decide (b = []) := by
  have : Value.string (⟨b.toArray⟩ : ByteArray) = .string s := h
  simp only [Value.string.injEq] at this
  rw [← this, Lib.toList_data]
  cases b <;> simp

theorem may_any (w : World) (p : PV) : Calls Tryz.prog 119 #[.agg p.row.toArray] w fun e w' => e = .returned (.bool p.may) ∧ Chg (fun _ => False) w w' := by
  obtain ⟨key, val, gone⟩ := p
  unfold PV.row PV.may
  simp only
  obtain ⟨sk, hsk⟩ : ∃ s : ByteArray, strV key = .string s := ⟨_, rfl⟩
  obtain ⟨sv, hsv⟩ : ∃ s : ByteArray, strV val = .string s := ⟨_, rfl⟩
  have h1 := str_size key sk hsk
  have h2 := str_size val sv hsv
  have h3 := str_nil val sv hsv
  rw [hsk, hsv]
  have hca : Chg (fun _ => False) w (w.alloc (.cells #[.string sk, .string sv, .bool gone] 103)) := (Chg.refl _ _).alloc _
  have HCa := Lib.hid hca
  clear hca hsk hsv
  by_cases a1 : 0 < key.length
  · have i1 : (0 : Int) < (sk.size : Int) := by omega
    by_cases a2 : key.length ≤ 64
    · have i2 : (sk.size : Int) ≤ 64 := by omega
      by_cases a3 : val.length ≤ 1024
      · have i3 : (sv.size : Int) ≤ 1024 := by omega
        by_cases a4 : val = []
        · have i4 : (sv.toList == ([] : List UInt8)) = true := by rw [h3]; simpa using a4
          have HA := Lib.hid (And.intro a1 (And.intro a2 (And.intro a3 a4)))
          clear h1 h2 h3 a1 a2 a3 a4
          cases gone
          · go_enter Tryz.func119, Tryz.ntmps119
            go_wp2_with fail
            go_ret
            exact ⟨by have := HA.out; simp [this], HCa.out⟩
          · go_enter Tryz.func119, Tryz.ntmps119
            go_wp2_with fail
            go_ret
            exact ⟨by have := HA.out; simp [this], HCa.out⟩
        · have i4 : (sv.toList == ([] : List UInt8)) = false := by rw [h3]; simpa using a4
          have HA := Lib.hid (And.intro a1 (And.intro a2 (And.intro a3 a4)))
          clear h1 h2 h3 a1 a2 a3 a4
          cases gone
          · go_enter Tryz.func119, Tryz.ntmps119
            go_wp2_with fail
            go_ret
            exact ⟨by have := HA.out; simp [this], HCa.out⟩
          · go_enter Tryz.func119, Tryz.ntmps119
            go_wp2_with fail
            go_ret
            exact ⟨by have := HA.out; simp [this], HCa.out⟩
      · have i3 : ¬ (sv.size : Int) ≤ 1024 := by omega
        have HA := Lib.hid (And.intro a1 (And.intro a2 a3))
        clear h1 h2 h3 a1 a2 a3
        cases gone
        · go_enter Tryz.func119, Tryz.ntmps119
          go_wp2_with fail
          go_ret
          exact ⟨by have := HA.out; simp [this], HCa.out⟩
        · go_enter Tryz.func119, Tryz.ntmps119
          go_wp2_with fail
          go_ret
          exact ⟨by have := HA.out; simp [this], HCa.out⟩
    · have i2 : ¬ (sk.size : Int) ≤ 64 := by omega
      have HA := Lib.hid (And.intro a1 a2)
      clear h1 h2 h3 a1 a2
      cases gone
      · go_enter Tryz.func119, Tryz.ntmps119
        go_wp2_with fail
        go_ret
        exact ⟨by have := HA.out; simp [this], HCa.out⟩
      · go_enter Tryz.func119, Tryz.ntmps119
        go_wp2_with fail
        go_ret
        exact ⟨by have := HA.out; simp [this], HCa.out⟩
  · have i1 : ¬ (0 : Int) < (sk.size : Int) := by omega
    have HA := Lib.hid a1
    clear h1 h2 h3 a1
    cases gone
    · go_enter Tryz.func119, Tryz.ntmps119
      go_wp2_with fail
      go_ret
      exact ⟨by have := HA.out; simp [this], HCa.out⟩
    · go_enter Tryz.func119, Tryz.ntmps119
      go_wp2_with fail
      go_ret
      exact ⟨by have := HA.out; simp [this], HCa.out⟩

end Go.Proofs.YtbjagmlbamjdbaaGreat.kvs
end

section
namespace Go.Proofs.YtbjagmlbamjdbaaGreat.kvs
open Go.RowKit Go.My disks bufs wals
set_option maxRecDepth 100000

variable {w w' : World}

abbrev IsB (B b : Nat) (bs : Txt) (w : World) : Prop := Lib.IsBuilder 198 5 B b (cellsB bs) w
abbrev UsedB (B b : Nat) (bs : Txt) (w : World) : Prop := Lib.BuilderAt 198 5 B b (.pointer (some ⟨b, 0, none⟩)) (cellsB bs) w

theorem size_builder : (Tryz.prog.info? 198).map (·.size) = some 2 := by kernel_rfl
theorem lies_builder : liesAt Tryz.prog Tryz.prog.depth 198 (2 / Tryz.prog.cellsOf 198) 0 198 1 = true := by kernel_rfl
theorem cells_u8 : Tryz.prog.cellsOf 5 = 1 := by kernel_rfl

set_option maxHeartbeats 1000000 in
theorem check_used (b : Nat) (w : World) (h0 : w.cell? ⟨b, 0, none⟩ = some (.pointer (some ⟨b, 0, none⟩))) :
    Calls Tryz.prog 163 #[.pointer (some ⟨b, 0, none⟩)] w fun e w' => e = .returned (.tuple #[]) ∧ w' = w := by
  obtain ⟨j, hj, _⟩ := Option.map_eq_some_iff.1 size_builder
  go_enter Tryz.func163, Tryz.ntmps163
  go_wp2_with fail
  rw [Lib.run_neq_ptr_same w _ Tryz.underlying196 hj]
  go_wp2_with fail
  go_end0
  exact ⟨rfl, rfl⟩

set_option maxHeartbeats 1000000 in
theorem check_fresh (b : Nat) (w : World) (h0 : w.cell? ⟨b, 0, none⟩ = some (.pointer none)) (hsh : w.shape? b = some (198, 2)) (hfz : w.frozen? ⟨b, 0, none⟩ = false) :
    Calls Tryz.prog 163 #[.pointer (some ⟨b, 0, none⟩)] w fun e w' => e = .returned (.tuple #[]) ∧ w' = w.setCell ⟨b, 0, none⟩ (.pointer (some ⟨b, 0, none⟩)) := by
  obtain ⟨j, hj, hjs⟩ := Option.map_eq_some_iff.1 size_builder
  go_enter Tryz.func163, Tryz.ntmps163
  go_wp2_with fail
  rw [Lib.run_to_unsafe w ⟨b, 0, none⟩ Tryz.underlying196 Tryz.underlying264 hj (by rw [hjs]; decide) hsh (Nat.zero_lt_succ 1)]
  simp only [Result.andThen]
  rw [Oper.upon_value]
  go_wp2_with fail
  rw [run_callFunc_extern Tryz.func185 (by kernel_rfl) (by kernel_rfl) (by kernel_rfl) (e := Extern.AbiNoEscape.same) (by kernel_rfl)]
  rw [Lib.run_noEscape]
  simp only [Result.andThen]
  rw [Oper.upon_value]
  go_wp2_with fail
  rw [Lib.run_from_unsafe w ⟨b, 0, none⟩ Tryz.underlying264 Tryz.underlying196 hj hsh lies_builder]
  simp only [Result.andThen]
  rw [Oper.upon_value]
  go_wp2_with fail
  go_end0
  exact ⟨rfl, rfl⟩

theorem check_any {B b : Nat} {bs : Txt} (w : World) (h : IsB B b bs w) :
    Calls Tryz.prog 163 #[.pointer (some ⟨b, 0, none⟩)] w fun e w' => e = .returned (.tuple #[]) ∧ UsedB B b bs w' ∧ Chg (· = b) w w' := by
  rcases h with h | h
  · refine (check_fresh b w h.cell0 h.shape h.frozen0).mono ?_
    rintro e w' ⟨rfl, rfl⟩
    exact ⟨rfl, h.used _, (Chg.refl (· = b) w).setCell (p := ⟨b, 0, none⟩) (fun _ => rfl) _⟩
  · refine (check_used b w h.cell0).mono ?_
    rintro e w' ⟨rfl, rfl⟩
    exact ⟨rfl, h, Chg.refl _ _⟩

set_option maxHeartbeats 1000000 in
theorem blen_any {B b : Nat} {bs : Txt} (w : World) (h : UsedB B b bs w) :
    Calls Tryz.prog 124 #[.pointer (some ⟨b, 0, none⟩)] w fun e w' => e = .returned (.int .i64 (bs.length : Int)) ∧ w' = w := by
  obtain ⟨hB, v, hbk, hown, hne⟩ := h
  rw [cellsB_length] at hown
  obtain ⟨ao, cap, rfl⟩ : ∃ ao cap, v = .slice ao bs.length cap := own_slice hown
  have c1 : w.cell? ⟨b, 1, none⟩ = some (.slice ao bs.length cap) := by rw [Lib.cell_of_heap hbk]; rfl
  clear hbk hown hne
  go_enter Tryz.func124, Tryz.ntmps124
  go_wp2_with fail
  go_ret
  exact ⟨rfl, rfl⟩

theorem neB : (198 : TypeId) ≠ 5 := by decide

theorem put_grown {B b : Nat} {cs : Txt} {v v' : Value} {n : Nat} {w1 w2 : World} (hB : B ≤ b) (hbk : w1.heap[b]? = some (.cells #[.pointer (some ⟨b, 0, none⟩), v] 198 (0, 0)))
    (hown : w2.ownsRow B 5 1 v' n (cellsB cs)) (hn : n = cs.length) (hg : Chg (fun k => some k = v.ownBlock) w1 w2) (hne : v.ownBlock ≠ some b) :
    w2.heap[b]? = some (.cells #[.pointer (some ⟨b, 0, none⟩), v] 198 (0, 0)) ∧ UsedB B b cs (w2.setCell ⟨b, 1, none⟩ v') := by
  have hb2 : w2.heap[b]? = some (.cells #[.pointer (some ⟨b, 0, none⟩), v] 198 (0, 0)) := hg.at hbk (fun e => hne e.symm)
  exact ⟨hb2, Lib.BuilderAt.put (T := 198) (e := 5) hB hb2 (bs' := cellsB cs) (by rw [cellsB_length, ← hn]; exact hown) neB⟩

theorem append_string {base n : Nat} {v : Value} {xs : Txt} {s : ByteArray} (h : w.ownsRow base 5 1 v n (cellsB xs)) (hb : base ≤ w.heap.size) (hl : xs.length + s.size ≤ 140737488355328) (ty : TypeId) :
    ∃ v' w', (Builtin.append_ #[101, 9] ty #[v, .string s]).run Tryz.prog w = .ok v' w' ∧ w'.ownsRow base 5 1 v' (xs ++ s.data.toList).length (cellsB (xs ++ s.data.toList)) ∧ Chg (fun k => some k = v.ownBlock) w w' := by
  obtain ⟨i, hi, hz, hs, hby⟩ := u8_parts
  have hn := own_len h
  obtain ⟨v', w', h1, h2, h3, -⟩ := Lib.run_append_own_string (P := Tryz.prog) w base 101 9 ty 5 i Tryz.underlying101 Tryz.underlying9 hi hz hs hby v n (cellsB xs) h s (by unfold maxLen; omega) (by omega) hb
  refine ⟨v', w', h1, ?_, Chg.of_grown h3⟩
  have e1 : (xs ++ s.data.toList).length = n + s.size := by rw [List.length_append, hn]; rfl
  have e2 : cellsB (xs ++ s.data.toList) = cellsB xs ++ Lib.strCells s := by simp [cellsB, Lib.strCells]
  rw [e1, e2]
  exact h2

theorem append_slice {base n : Nat} {v : Value} {xs ys : Txt} {oa : Option Addr} {m cap : Nat} (h : w.ownsRow base 5 1 v n (cellsB xs)) (hs : SlAt w (.slice oa m cap) (cellsB ys)) (hb : base ≤ w.heap.size) (hl : xs.length + ys.length ≤ 140737488355328) (ty : TypeId) :
    ∃ v' w', (Builtin.append_ #[101, 101] ty #[v, .slice oa m cap]).run Tryz.prog w = .ok v' w' ∧ w'.ownsRow base 5 1 v' (xs ++ ys).length (cellsB (xs ++ ys)) ∧ Chg (fun k => some k = v.ownBlock) w w' := by
  obtain ⟨v', w', h1, h2, h3, -⟩ := append_bytes h hs hb hl ty
  exact ⟨v', w', h1, h2, Chg.of_grown h3⟩

set_option maxHeartbeats 2000000 in
theorem writeString_any {B b : Nat} {bs : Txt} (w : World) (h : IsB B b bs w) (hBw : B ≤ w.heap.size) (t : Txt) (hl : bs.length + t.length ≤ 1000000) :
    Calls Tryz.prog 122 #[.pointer (some ⟨b, 0, none⟩), strV t] w fun e w' => (∃ v, e = .returned v) ∧ UsedB B b (bs ++ t) w' ∧ Chg (fun k => B ≤ k) w w' := by
  obtain ⟨s, hs⟩ : ∃ s : ByteArray, strV t = .string s := ⟨_, rfl⟩
  have hsz := str_size t s hs
  have hst : s.data.toList = t := by
    have : Value.string (⟨t.toArray⟩ : ByteArray) = .string s := hs
    simp only [Value.string.injEq] at this
    rw [← this]
  rw [hs]
  clear hs
  go_enter Tryz.func122, Tryz.ntmps122
  go_wp2_with (go_at_call 163; refine (check_any _ h).mono ?_)
  rintro e w1 ⟨rfl, h1, hb1⟩
  obtain ⟨hB, v, hbk, hown, hne⟩ := h1
  rw [cellsB_length] at hown
  have c0 : w1.cell? ⟨b, 0, none⟩ = some (.pointer (some ⟨b, 0, none⟩)) := by rw [Lib.cell_of_heap hbk]; rfl
  have c1 : w1.cell? ⟨b, 1, none⟩ = some v := by rw [Lib.cell_of_heap hbk]; rfl
  obtain ⟨v2, w2, hr, ho, hg⟩ := append_string (s := s) hown (by have := hb1.size; omega) (by omega) 101
  obtain ⟨hb2, hU⟩ := put_grown hB hbk ho rfl hg hne
  have d0 : w2.cell? ⟨b, 0, none⟩ = some (.pointer (some ⟨b, 0, none⟩)) := by rw [Lib.cell_of_heap hb2]; rfl
  have d1 : w2.cell? ⟨b, 1, none⟩ = some v := by rw [Lib.cell_of_heap hb2]; rfl
  have f1 : w2.frozen? ⟨b, 1, none⟩ = false := Lib.frozen_of_heap hb2 1
  have hc2 : Chg (fun k => B ≤ k) w w2 := (hb1.mono (fun k _ hk => by rw [hk]; exact hB)).trans (hg.mono (fun k _ hk => (hown.lt k hk.symm).1)) (fun _ _ h => h)
  obtain ⟨N, hN⟩ : ∃ N, (bs ++ s.data.toList).length = N := ⟨_, rfl⟩
  rw [hN] at ho
  obtain ⟨oa, cap, rfl⟩ := own_slice ho
  have HR := Lib.hid hr
  have HU := Lib.hid hU
  have HC := Lib.hid (hc2.setCell (p := ⟨b, 1, none⟩) (fun _ => hB) (.slice oa N cap))
  clear hr hU hc2 hg ho hown hbk hb2 hb1 hN
  go_wp2_with (first
    | (at_builtin; refine Lib.wpList_append_run _ rfl _ _ _ _ rfl _ _ rfl rfl _ _ HR.out ?_))
  go_ret2
  rw [← hst]
  exact ⟨⟨_, rfl⟩, HU.out, HC.out⟩

set_option maxHeartbeats 2000000 in
theorem write_any {B b : Nat} {bs : Txt} (w : World) (h : IsB B b bs w) (hBw : B ≤ w.heap.size) (x : Value) (t : Txt) (ht : SlAt w x (cellsB t)) (hfar : ∀ g, x.ownBlock = some g → g ≠ b) (hl : bs.length + t.length ≤ 1000000) :
    Calls Tryz.prog 120 #[.pointer (some ⟨b, 0, none⟩), x] w fun e w' => (∃ v, e = .returned v) ∧ UsedB B b (bs ++ t) w' ∧ Chg (fun k => B ≤ k) w w' := by
  obtain ⟨oa, cap, rfl⟩ := SlAt.shape ht
  go_enter Tryz.func120, Tryz.ntmps120
  go_wp2_with (go_at_call 163; refine (check_any _ h).mono ?_)
  rintro e w1 ⟨rfl, h1, hb1⟩
  obtain ⟨hB, v, hbk, hown, hne⟩ := h1
  rw [cellsB_length] at hown
  have ht1 : SlAt w1 (.slice oa t.length cap) (cellsB t) := by
    obtain ⟨oa', cap', he, k2, k3⟩ := ht
    rw [cellsB_length] at he
    cases he
    refine ⟨oa, cap, by rw [cellsB_length], k2, fun g off ho i y hy => hb1.cell (k3 g off ho i y hy) ?_⟩
    subst ho
    exact fun e => hfar g rfl e
  have c0 : w1.cell? ⟨b, 0, none⟩ = some (.pointer (some ⟨b, 0, none⟩)) := by rw [Lib.cell_of_heap hbk]; rfl
  have c1 : w1.cell? ⟨b, 1, none⟩ = some v := by rw [Lib.cell_of_heap hbk]; rfl
  obtain ⟨v2, w2, hr, ho, hg⟩ := append_slice hown ht1 (by have := hb1.size; omega) (by omega) 101
  obtain ⟨hb2, hU⟩ := put_grown hB hbk ho rfl hg hne
  have d0 : w2.cell? ⟨b, 0, none⟩ = some (.pointer (some ⟨b, 0, none⟩)) := by rw [Lib.cell_of_heap hb2]; rfl
  have d1 : w2.cell? ⟨b, 1, none⟩ = some v := by rw [Lib.cell_of_heap hb2]; rfl
  have f1 : w2.frozen? ⟨b, 1, none⟩ = false := Lib.frozen_of_heap hb2 1
  have hc2 : Chg (fun k => B ≤ k) w w2 := (hb1.mono (fun k _ hk => by rw [hk]; exact hB)).trans (hg.mono (fun k _ hk => (hown.lt k hk.symm).1)) (fun _ _ h => h)
  obtain ⟨N, hN⟩ : ∃ N, (bs ++ t).length = N := ⟨_, rfl⟩
  rw [hN] at ho
  obtain ⟨oa2, cap2, rfl⟩ := own_slice ho
  have HR := Lib.hid hr
  have HU := Lib.hid hU
  have HC := Lib.hid (hc2.setCell (p := ⟨b, 1, none⟩) (fun _ => hB) (.slice oa2 N cap2))
  clear hr hU hc2 hg ho hown hbk hb2 hb1 hN ht ht1
  go_wp2_with (first
    | (at_builtin; refine Lib.wpList_append_run _ rfl _ _ _ _ rfl _ _ rfl rfl _ _ HR.out ?_))
  go_ret2
  exact ⟨⟨_, rfl⟩, HU.out, HC.out⟩

set_option maxHeartbeats 2000000 in
theorem string_any {B b : Nat} {bs : Txt} (w : World) (h : UsedB B b bs w) (h0 : bs ≠ []) :
    Calls Tryz.prog 125 #[.pointer (some ⟨b, 0, none⟩)] w fun e w' => e = .returned (strV bs) ∧ Chg (fun k => B ≤ k) w w' := by
  obtain ⟨hB, v, hbk, hown, hne⟩ := h
  rw [cellsB_length] at hown
  have hl0 : bs.length ≠ 0 := by simpa using h0
  obtain ⟨g, cap, cur, rfl, hbg, hg, hnc, hcm, hcs, htake⟩ : ∃ g cap cur, v = .slice (some ⟨g, 0, none⟩) bs.length cap ∧ B ≤ g ∧ w.heap[g]? = some (.cells cur 5 (0, 0)) ∧ bs.length ≤ cap ∧ cap ≤ maxLen ∧ cur.size = cap * 1 ∧ cur.toList.take (bs.length * 1) = cellsB bs := by
    rcases hown.2 with ⟨_, hz⟩ | ⟨g, cap, cur, hv, r⟩
    · exact absurd hz hl0
    · exact ⟨g, cap, cur, hv, r⟩
  have c1 : w.drew.cell? ⟨b, 1, none⟩ = some (.slice (some ⟨g, 0, none⟩) bs.length cap) := by
    have : w.drew.heap[b]? = some (.cells #[.pointer (some ⟨b, 0, none⟩), .slice (some ⟨g, 0, none⟩) bs.length cap] 198 (0, 0)) := hbk
    rw [Lib.cell_of_heap this]; rfl
  have hSD : (Builtin.unsafeSliceData_ #[101] 241 #[.slice (some ⟨g, 0, none⟩) bs.length cap]).run Tryz.prog w.drew = .ok (.pointer (some ⟨g, 0, none⟩)) w.drew :=
    Lib.run_unsafeSliceData_row _ _ _ _ _ _ (by omega)
  have hUS : (Builtin.unsafeString_ #[241, 3] 9 #[.pointer (some ⟨g, 0, none⟩), .int .i64 bs.length]).run Tryz.prog w.drew = .ok (.string ⟨bs.toArray⟩) (w.drew.freeze ⟨g, 0, none⟩ bs.length) := by
    refine Lib.run_unsafeString_row w.drew 241 3 9 5 Tryz.underlying241 cells_u8 g cur.size (by have hg' : w.drew.heap[g]? = some (.cells cur 5 (0, 0)) := hg; simp [World.shape?, hg']) bs h0 (by omega) (by unfold maxLen at hcm; omega) ?_
    intro j x hx
    have := hown.cells (g := g) rfl j (.int .u8 x.toNat) (by simp [cellsB, hx])
    exact this
  have hcf : Chg (fun k => B ≤ k) w (w.drew.freeze ⟨g, 0, none⟩ bs.length) := by
    refine (Chg.refl _ w).drew.trans (?_ : Chg (fun k => B ≤ k) w.drew _) (fun _ _ h => h)
    unfold World.freeze
    split
    · exact Chg.refl _ _
    · refine ⟨rfl, rfl, rfl, by simp, fun k hk hn => ?_⟩
      simp only [Array.getElem?_modify]
      rw [if_neg (fun e => hn (by rw [← e]; exact hbg))]
  have HC := Lib.hid hcf
  clear hcf hown hg htake hbk hne
  go_enter Tryz.func125, Tryz.ntmps125
  go_wp2_with fail
  go_region
  all_goals (go_wp2_with fail; go_ret; exact ⟨rfl, HC.out⟩)

end Go.Proofs.YtbjagmlbamjdbaaGreat.kvs
end

section
namespace Go.Proofs.YtbjagmlbamjdbaaGreat.kvs
open Go.RowKit Go.My disks bufs wals
set_option maxRecDepth 100000

variable {w w' : World}

theorem str_append (a b : Txt) : (⟨a.toArray⟩ : ByteArray) ++ (⟨b.toArray⟩ : ByteArray) = ⟨(a ++ b).toArray⟩ := by
  apply ByteArray.ext
  simp
theorem strV_string (b : Txt) (s : ByteArray) (h : strV b = .string s) : s = ⟨b.toArray⟩ := by
  have : Value.string (⟨b.toArray⟩ : ByteArray) = .string s := h
  simp only [Value.string.injEq] at this
  exact this.symm

set_option maxHeartbeats 1000000 in
theorem text_any (w : World) (t : Txt) (hn : t.length < 16384) : Calls Tryz.prog 164 #[strV t] w fun e w' => e = .returned (strV (textB t)) ∧ Chg (fun _ => False) w w' := by
  obtain ⟨s, hs⟩ : ∃ s : ByteArray, strV t = .string s := ⟨_, rfl⟩
  have hsz := str_size t s hs
  have hst := strV_string t s hs
  rw [hs]
  clear hs
  have hi : (s.size : Int) < 16384 := by omega
  have HV := Lib.hid (fun w => var_any w s.size (by omega))
  have hlen : textB t = varB s.size ++ t := by rw [hsz]; rfl
  rw [hlen]
  have HST := Lib.hid hst
  have hfit : ¬ 9223372036854775807 < (varB s.size).length + s.size := by have := (varB_length s.size).1; omega
  clear hsz hst hlen
  go_enter Tryz.func164, Tryz.ntmps164
  go_wp2_with (first
    | (go_at_call 121; refine (HV.out _).mono ?_; rintro e w1 ⟨v, rfl, ho, hc⟩
       have hcv := conv_own ho
       obtain ⟨oa, cap, rfl⟩ := own_slice ho
       have HC := Lib.hid hc
       clear ho hc))
  go_ret
  refine ⟨?_, HC.out⟩
  rw [HST.out, str_append]
  rfl

theorem quiet_concat {P : Program} {C : World → Prop} {a : Act} {o : Oper} {K : Act → Prop} (ty : TypeId) (x y : Operand) (ty' : TypeId) (h : o.op = .binOp .add ty x y ty') (s t : ByteArray) (hx : a.eval x = .string s) (hy : a.eval y = .string t)
    (hl : s.size + t.size ≤ 9223372036854775807) (hk : K (a.put o.dst (.string (s ++ t)))) : o.quiet P a C K := by
  refine ⟨_, fun w _ => ?_, hk⟩
  unfold Oper.quietAt
  have : (execOp a.eval o).run P w = .ok (.value (.string (s ++ t))) w := by
    unfold execOp
    rw [h]
    simp [binOp, hx, hy, eqGuard, run_string_add_sum _ s t hl]
  rw [this]
  exact ⟨rfl, rfl⟩

theorem textB_length (t : Txt) : (textB t).length ≤ 10 + t.length := by
  have := (varB_length t.length).1
  unfold textB
  rw [List.length_append]
  omega

set_option maxHeartbeats 1000000 in
theorem change_any (w : World) (p : PV) (hk : p.key.length < 16384) (hv : p.val.length < 16384) : Calls Tryz.prog 123 #[.agg p.row.toArray] w fun e w' => e = .returned (strV p.bytes) ∧ Chg (fun _ => False) w w' := by
  obtain ⟨key, val, gone⟩ := p
  unfold PV.row PV.bytes
  simp only at hk hv ⊢
  have HK := Lib.hid (fun w => text_any w key hk)
  have HV := Lib.hid (fun w => text_any w val hv)
  have hlk := textB_length key
  have hlv := textB_length val
  obtain ⟨sk, hsk⟩ : ∃ s : ByteArray, strV key = .string s := ⟨_, rfl⟩
  obtain ⟨sv, hsv⟩ : ∃ s : ByteArray, strV val = .string s := ⟨_, rfl⟩
  obtain ⟨tk, htk⟩ : ∃ s : ByteArray, strV (textB key) = .string s := ⟨_, rfl⟩
  obtain ⟨tv, htv⟩ : ∃ s : ByteArray, strV (textB val) = .string s := ⟨_, rfl⟩
  rw [hsk, htk] at HK
  rw [hsv, htv] at HV
  have h1 := str_size _ tk htk
  have h2 := str_size _ tv htv
  have e1 := strV_string _ tk htk
  have e2 := strV_string _ tv htv
  rw [hsk, hsv]
  clear hsk hsv htk htv
  have hca : Chg (fun _ => False) w (w.alloc (.cells #[.string sk, .string sv, .bool gone] 103)) := (Chg.refl _ _).alloc _
  have hB : (w.alloc (.cells #[.string sk, .string sv, .bool gone] 103)).heap[w.heap.size]? = some (.cells #[.string sk, .string sv, .bool gone] 103 (0, 0)) := block_alloc_new _ _
  have E1 := Lib.hid e1
  have E2 := Lib.hid e2
  have HCa := Lib.hid hca
  have hfit : ¬ 9223372036854775807 < 1 + tk.size := by omega
  have hfit2 : ¬ 9223372036854775807 < 1 + tk.size + tv.size := by omega
  have HB := Lib.hid hB
  clear e1 e2 hca hB h1 h2 hk hv hlk hlv
  cases gone
  · have q0 : ∀ n : FreshW (w.alloc (.cells #[.string sk, .string sv, .bool false] 103)), n.val.cell? ⟨w.heap.size, 0, none⟩ = some (.string sk) := fun n => n.chg.cell (cell_of_block HB.out (i := 0) rfl) id
    have q1 : ∀ n : FreshW (w.alloc (.cells #[.string sk, .string sv, .bool false] 103)), n.val.cell? ⟨w.heap.size, 1, none⟩ = some (.string sv) := fun n => n.chg.cell (cell_of_block HB.out (i := 1) rfl) id
    have hk : ∀ m : FreshW (w.alloc (.cells #[.string sk, .string sv, .bool false] 103)), Calls Tryz.prog 164 #[.string sk] m.val fun e w'' => e = .returned (.string tk) ∧ ∃ m' : FreshW (w.alloc (.cells #[.string sk, .string sv, .bool false] 103)), w'' = m'.val := fun m => fresh_call (HK.out _)
    have hv : ∀ m : FreshW (w.alloc (.cells #[.string sk, .string sv, .bool false] 103)), Calls Tryz.prog 164 #[.string sv] m.val fun e w'' => e = .returned (.string tv) ∧ ∃ m' : FreshW (w.alloc (.cells #[.string sk, .string sv, .bool false] 103)), w'' = m'.val := fun m => fresh_call (HV.out _)
    have hl1 : (⟨#[0]⟩ : ByteArray).size + tk.size ≤ 9223372036854775807 := by have : (⟨#[0]⟩ : ByteArray).size = 1 := rfl; omega
    have hl2 : ((⟨#[0]⟩ : ByteArray) ++ tk).size + tv.size ≤ 9223372036854775807 := by have : (⟨#[0]⟩ : ByteArray).size = 1 := rfl; rw [ByteArray.size_append]; omega
    have HKq := Lib.hid hk
    have HVq := Lib.hid hv
    clear hk hv
    go_enter Tryz.func123, Tryz.ntmps123
    go_wp2_with fail
    refine wp_region_fresh (by kernel_rfl) (by kernel_rfl) ?_
    iterate 3 (go_big_quiet_step ((go_at_call 164; exact HKq.out _)))
    go_big_quiet_want
    refine quiet_concat _ _ _ _ rfl _ _ rfl rfl hl1 ?_
    simp only [Act.put, List.setIfInBounds_toArray, List.set_cons_succ, List.set_cons_zero]
    go_big_quiet_on
    iterate 3 (go_big_quiet_step ((go_at_call 164; exact HVq.out _)))
    go_big_quiet_want
    refine quiet_concat _ _ _ _ rfl _ _ rfl rfl hl2 ?_
    simp only [Act.put, List.setIfInBounds_toArray, List.set_cons_succ, List.set_cons_zero]
    go_big_quiet_on
    go_big_quiet_step (fail)
    refine wpQuiet_nil ?_
    rintro _ ⟨n1, rfl⟩
    go_wp2_with fail
    go_ret
    refine ⟨?_, HCa.out.trans' n1.chg⟩
    rw [E1.out, E2.out, show (⟨#[0]⟩ : ByteArray) = ⟨([0] : Txt).toArray⟩ from rfl, str_append, str_append]
    rfl
  · go_enter Tryz.func123, Tryz.ntmps123
    go_wp2_with (first
      | (go_at_call 164; refine (HK.out _).mono ?_; rintro e w1 ⟨rfl, hc⟩
         have HC := Lib.hid hc
         clear hc))
    go_ret
    refine ⟨?_, HCa.out.trans' HC.out⟩
    rw [E1.out, show (⟨#[1]⟩ : ByteArray) = ⟨([1] : Txt).toArray⟩ from rfl, str_append]
    rfl

end Go.Proofs.YtbjagmlbamjdbaaGreat.kvs
end

section
namespace Go.Proofs.YtbjagmlbamjdbaaGreat.kvs
open Go.RowKit Go.My disks bufs wals
set_option maxRecDepth 100000

variable {w w' : World}

abbrev Puts (w : World) (B : Nat) (v : Value) (l : List PV) : Prop := OwnRecs w B 103 3 v (l.map PV.row)

theorem puts_meas {a k : Nat} (h : k < a) : a - (intOf (.int .i64 ((k : Int) + 1))).toNat < a - (intOf (.int .i64 (k : Int))).toNat := by simp [intOf]; omega

theorem put_cells {B : Nat} {v : Value} {l : List PV} {w : World} (h : Puts w B v l) {k : Nat} (hk : k < l.length) :
    ∃ g cap p, v = .slice (some ⟨g, 0, none⟩) l.length cap ∧ l[k]? = some p ∧ w.cell? ⟨g, k * 3, none⟩ = some (strV p.key) ∧ w.cell? ⟨g, k * 3 + 1, none⟩ = some (strV p.val) ∧ w.cell? ⟨g, k * 3 + 2, none⟩ = some (.bool p.gone) := by
  obtain ⟨g, cap, e, -, -, -, hc, -⟩ := h.cell (k := k) (by simpa using hk)
  rw [List.length_map] at e
  have hr : (l.map PV.row)[k]'(by simpa using hk) = PV.row l[k] := by rw [List.getElem_map]
  rw [hr] at hc
  exact ⟨g, cap, l[k], e, List.getElem?_eq_getElem hk, hc 0 _ rfl, hc 1 _ rfl, hc 2 _ rfl⟩

theorem not_may_any (w : World) (p : PV) : Calls Tryz.prog 118 #[.agg p.row.toArray] w fun e w' => e = .returned (.bool (!p.may)) ∧ Chg (fun _ => False) w w' := by
  have HM := Lib.hid (fun w => may_any w p)
  have hca : Chg (fun _ => False) w (w.alloc (.cells p.row.toArray 103)) := (Chg.refl _ _).alloc _
  have HCa := Lib.hid hca
  obtain ⟨b, hb⟩ : ∃ b, p.may = b := ⟨_, rfl⟩
  rw [hb] at HM ⊢
  unfold PV.row at *
  clear hca hb
  go_enter Tryz.func118, Tryz.ntmps118
  go_wp2_with (go_at_call 119; refine (HM.out _).mono ?_; rintro e w1 ⟨rfl, hc⟩; have HC := Lib.hid hc; clear hc)
  go_ret
  exact ⟨rfl, HCa.out.trans' HC.out⟩

set_option maxHeartbeats 1000000 in
theorem index_any (w : World) {B : Nat} {v : Value} {l : List PV} (h : Puts w B v l) (hl : l.length ≤ 1000000) :
    Calls Tryz.prog 162 #[v, .func (.func 118) #[] #[]] w fun e w' => (((∀ p ∈ l, p.may = true) ∧ e = .returned (.int .i64 (-1))) ∨ (∃ p ∈ l, p.may = false) ∧ ∃ k : Nat, e = .returned (.int .i64 (k : Int))) ∧ Chg (fun _ => False) w w' := by
  obtain ⟨oa, cap, rfl, -⟩ := h.slice
  rw [List.length_map] at h ⊢
  have H := Lib.hid h
  clear h
  go_enter Tryz.func162, Tryz.ntmps162
  go_wp2_with fail
  go_loopw [8] (fun j wr => ∃ k : Nat, j = .int .i64 k ∧ k ≤ l.length ∧ (∀ p ∈ l.take k, p.may = true) ∧ Chg (fun _ => False) w wr) (fun j _ => l.length - (intOf j).toNat)
  · exact ⟨0, rfl, Nat.zero_le _, by simp, Chg.refl _ _⟩
  obtain ⟨k, rfl, hk, hno, hc⟩ := hrel
  have HC := Lib.hid hc
  have HNo := Lib.hid hno
  clear hc hno
  by_cases hlt : k < l.length
  · have hki : (k : Int) < (l.length : Int) := by omega
    obtain ⟨g', cap', p, e1, hr, d0, d1, d2⟩ := put_cells (H.out.kept HC.out (fun _ _ h => h)) hlt
    simp only [Value.slice.injEq] at e1
    obtain ⟨rfl, -, -⟩ := e1
    have HM := Lib.hid (fun w => not_may_any w p)
    have Hr := Lib.hid hr
    clear hr
    cases hm : p.may
    · rw [hm] at HM
      have Hm := Lib.hid hm
      clear hm
      unfold PV.row at HM
      go_wp2_with (first
        | (go_at_call 118; refine (HM.out _).mono ?_; rintro e w1 ⟨rfl, hc1⟩; have HC1 := Lib.hid hc1; clear hc1))
      go_ret
      exact ⟨Or.inr ⟨⟨p, List.mem_of_getElem? Hr.out, Hm.out⟩, k, rfl⟩, HC.out.trans' HC1.out⟩
    · rw [hm] at HM
      have Hm := Lib.hid hm
      clear hm
      unfold PV.row at HM
      go_wp2_with (first
        | (go_at_call 118; refine (HM.out _).mono ?_; rintro e w1 ⟨rfl, hc1⟩; have HC1 := Lib.hid hc1; clear hc1))
      refine ⟨⟨k + 1, by go_num, hlt, fun q hq => ?_, HC.out.trans' HC1.out⟩, puts_meas hlt⟩
      rw [List.take_add_one, Hr.out, Option.toList_some] at hq
      rcases List.mem_append.1 hq with hq | hq
      · exact HNo.out q hq
      · rw [List.mem_singleton] at hq; subst hq; exact Hm.out
  · have hki : ¬ (k : Int) < (l.length : Int) := by omega
    obtain rfl : k = l.length := by omega
    go_wp2_with fail
    go_ret
    exact ⟨Or.inl ⟨by have := HNo.out; rwa [List.take_length] at this, rfl⟩, HC.out⟩

theorem bad_of {l : List PV} (h : ∃ p ∈ l, p.may = false) : (decide (∃ p ∈ l, p.may = false)) = true := by simpa using h

set_option maxHeartbeats 1000000 in
theorem contains_any (w : World) {B : Nat} {v : Value} {l : List PV} (h : Puts w B v l) (hl : l.length ≤ 1000000) :
    Calls Tryz.prog 117 #[v, .func (.func 118) #[] #[]] w fun e w' => e = .returned (.bool (decide (∃ p ∈ l, p.may = false))) ∧ Chg (fun _ => False) w w' := by
  have HI := Lib.hid (index_any w h hl)
  clear h
  go_enter Tryz.func117, Tryz.ntmps117
  go_wp2_with (go_at_call 162; refine HI.out.mono ?_; rintro e w1 ⟨h1, hc1⟩; have HC1 := Lib.hid hc1; clear hc1; have H1 := Lib.hid h1; clear h1; obtain ⟨z, hz⟩ : ∃ z : Int, e = .returned (.int .i64 z) := (by rcases H1.out with ⟨-, h⟩ | ⟨-, k, h⟩ <;> exact ⟨_, h⟩); subst hz)
  go_ret
  refine ⟨?_, HC1.out⟩
  rcases H1.out with ⟨h1, h2⟩ | ⟨h1, k, h2⟩
  · have hz : z = -1 := by simpa using h2
    subst hz
    have : ¬ ∃ p ∈ l, p.may = false := by rintro ⟨p, hp, h⟩; rw [h1 p hp] at h; cases h
    simp [this]
  · have hz : z = k := by simpa using h2
    subst hz
    simp [bad_of h1]

end Go.Proofs.YtbjagmlbamjdbaaGreat.kvs
end
