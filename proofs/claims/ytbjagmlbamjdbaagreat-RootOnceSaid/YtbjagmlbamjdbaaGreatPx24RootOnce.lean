/- . -/
import Derived.Test.YtbjagmlbamjdbaaGreatPx4RootOnce
import Derived.Test.YtbjagmlbamjdbaaGreatPx17RootOnce
import Derived.Test.YtbjagmlbamjdbaaGreatPx18RootOnce
import Derived.Test.YtbjagmlbamjdbaaGreatPx21RootOnce
import Derived.Test.YtbjagmlbamjdbaaGreatPx23RootOnce
import Derived.Laws.AppendOwnNone
import Derived.Maps.AppendAt

set_option linter.unusedSimpArgs false
set_option linter.unusedVariables false
section
namespace Go.Proofs.YtbjagmlbamjdbaaGreat.roots
open Go.RowKit Go.Maps Go.My Go.ChangeMaps disks bufs wals kvs
set_option maxRecDepth 100000

variable {W w w' : World} {P Q : Nat → Prop} {r kb l q d s a : Nat} {X : DV} {V : LV} {m : List KV} {recs : List Txt} {S : RS}

def nilS : RS := ⟨[], 0, [], []⟩

theorem str_app1 (c d : UInt8) (s : ByteArray) (h : strV [c] = .string s) : strV [c, d] = .string (s ++ (⟨#[d]⟩ : ByteArray)) := by
  unfold strV at h ⊢
  simp only [Value.string.injEq] at h ⊢
  subst h
  apply ByteArray.ext
  rw [ByteArray.data_append]
  simp

set_option maxHeartbeats 1000000 in
theorem read_nil (w : World) (h : KAt P w kb l q d X V []) (c0 : w.cell? ⟨r, 0, none⟩ = some (.pointer (some ⟨kb, 0, none⟩))) (c : UInt8) (sc : ByteArray) (hsc : strV [c] = .string sc) :
    Calls Tryz.prog 96 #[.pointer (some ⟨r, 0, none⟩), .string sc] w fun e w' => e = .returned (.tuple #[.slice none 0 0, .bool true]) ∧ Chg (fun _ => False) w w' := by
  have hse : scanF [] [c] [c, 255] = [] := by simp [scanF, sortF]
  have hs := kat_scan h (by simp) [c] [c, 255]
  rw [hse, str_app1 c 255 sc hsc, hsc] at hs
  have HS := Lib.hid hs
  have hsz : sc.size = 1 := str_size _ sc hsc
  have hfit : ¬ 9223372036854775807 < sc.size + 1 := by omega
  have HK := Lib.hid (fun W : World => check_is W (PksAt.nil W (fun _ => False)))
  clear h hs hse hsc hsz
  go_enter Tryz.func96, Tryz.ntmps96
  go_wp2_with (first
    | (go_at_call 97; refine HS.out.mono ?_; rintro e w1 ⟨v1, rfl, hp1, hc1⟩
       obtain ⟨o1, p1, hv1, -⟩ := hp1.slice
       have HC1 := Lib.hid hc1
       simp only [List.map_nil, List.length_nil] at hv1
       subst hv1
       clear hp1 hc1))
  go_loopw [6, 20] (fun u j wr => u = .slice none 0 0 ∧ j = .int .i64 0 ∧ w1 = wr) (fun _ _ _ => 0)
  · exact ⟨rfl, rfl, rfl⟩
  obtain ⟨rfl, rfl, rfl⟩ := hrel
  go_wp2_with (first
    | (go_at_call 10; refine (HK.out _).mono ?_; rintro e w2 ⟨rfl, hc2⟩; have HC2 := Lib.hid hc2; clear hc2))
  go_ret2
  exact ⟨rfl, HC1.out.trans' HC2.out⟩

def headN (kb : Nat) : Array Value := #[.pointer (some ⟨kb, 0, none⟩), .slice none 0 0, .int .i64 0, .slice none 0 0, .slice none 0 0]

set_option maxHeartbeats 2000000 in
theorem load_nil (w : World) (h : KS P W w kb l q d X V []) (hb : w.heap[r]? = some (.cells (headN kb) 37 (0, 0))) (hr : Beside P q w r) (hn : W.heap.size ≤ r) :
    Calls Tryz.prog 56 #[.pointer (some ⟨r, 0, none⟩)] w fun e w' => e = .returned (.bool true) ∧ KS P W w' kb l q d X V [] ∧ w'.heap[r]? = some (.cells (headN kb) 37 (0, 0)) ∧ Chg (· = r) w w' := by
  have HB := Lib.hid hb
  have HK := Lib.hid h
  have hne : r ≠ kb := by
    intro e
    have h1 := hb
    rw [e, h.at'.db.head] at h1
    simp [headN] at h1
  have HNe := Lib.hid (And.intro hne (And.intro hr hn))
  have z1 : w.frozen? ⟨r, 1, none⟩ = false := free_of_block hb
  have c0 : w.cell? ⟨r, 0, none⟩ = some (.pointer (some ⟨kb, 0, none⟩)) := cell_of_block hb rfl
  have HRp := Lib.hid (read_nil w h.at' c0 112 ⟨#[112]⟩ rfl)
  clear h hb hr hn hne z1 c0
  go_enter Tryz.func56, Tryz.ntmps56
  go_wp2_with (first
    | (go_at_call 96; fail))
  refine HRp.out.mono ?_
  rintro e w1 ⟨rfl, hc1⟩
  have hb1 := hc1.at HB.out id
  have z1 : w1.frozen? ⟨r, 1, none⟩ = false := free_of_block hb1
  have y1 : w1.cell? ⟨r, 1, none⟩ = some (.slice none 0 0) := cell_of_block hb1 rfl
  have hb2 : (w1.setCell ⟨r, 1, none⟩ (.slice none 0 0)).heap[r]? = some (.cells (headN kb) 37 (0, 0)) := by simpa [headN] using block_setCell (i := 1) (v := .slice none 0 0) hb1
  have hc2 : Chg (· = r) w (w1.setCell ⟨r, 1, none⟩ (.slice none 0 0)) := (hc1.mono (fun _ _ e => e.elim)).trans' (Chg.setCell (S := (· = r)) (Chg.refl _ _) (fun _ => rfl) _)
  have hside : ∀ w', Chg (· = r) w w' → KS P W w' kb l q d X V [] := fun w' hc => ks_aside HK.out hc (fun k hk e => HNe.out.2.1.1 (e ▸ hk)) (fun e => HNe.out.2.1.2.1 e.symm) (fun e => HNe.out.1 e.symm) (fun k e => e ▸ HNe.out.2.2)
  have HSide := Lib.hid hside
  have HC2 := Lib.hid hc2
  have HB2 := Lib.hid hb2
  have HRq := Lib.hid (read_nil (r := r) (w1.setCell ⟨r, 1, none⟩ (.slice none 0 0)) (hside _ hc2).at' (cell_of_block hb2 rfl) 113 ⟨#[113]⟩ rfl)
  clear hc1 hb1 hb2 hc2 hside HRp
  dsimp only
  go_wp2_with (first
    | (go_at_call 96; fail))
  refine HRq.out.mono ?_
  rintro e w3 ⟨rfl, hc3⟩
  clear z1 y1
  have hb3 := hc3.at HB2.out id
  have z3 : w3.frozen? ⟨r, 3, none⟩ = false := free_of_block hb3
  have y3 : w3.cell? ⟨r, 3, none⟩ = some (.slice none 0 0) := cell_of_block hb3 rfl
  obtain ⟨w4, hw4⟩ : ∃ w4, w3.setCell ⟨r, 3, none⟩ (.slice none 0 0) = w4 := ⟨_, rfl⟩
  have hb4 : w4.heap[r]? = some (.cells (headN kb) 37 (0, 0)) := by rw [← hw4]; simpa [headN] using block_setCell (i := 3) (v := .slice none 0 0) hb3
  have hc4 : Chg (· = r) w w4 := by
    rw [← hw4]
    exact (HC2.out.trans' (hc3.mono (fun _ _ e => e.elim))).trans' (Chg.setCell (S := (· = r)) (Chg.refl _ _) (fun _ => rfl) _)
  have HC4 := Lib.hid hc4
  have HB4 := Lib.hid hb4
  clear hc3 hb3 hb4 hc4 HRq
  dsimp only
  go_wp2_with fail
  try rw [hw4]
  clear hw4 z3 y3
  have HD := Lib.hid (show Chg (· = r) w w4.drew from HC4.out.drew)
  have d1 : w4.cell? ⟨r, 1, none⟩ = some (.slice none 0 0) := cell_of_block HB4.out rfl
  have d3 : w4.cell? ⟨r, 3, none⟩ = some (.slice none 0 0) := cell_of_block HB4.out rfl
  refine wp_region_noPanic ?_
  refine wp_region_held_drew (S := (fun w' => w'.cell? ⟨r, 1, none⟩ = some (.slice none 0 0) ∧ w'.cell? ⟨r, 3, none⟩ = some (.slice none 0 0))) (by kernel_rfl) (⟨d1, d3⟩) (fun hHeld => ?_)
  refine tk 0 (v := ?_) hHeld rfl (fun w hSw => ?_) ?_
  rotate_left
  · (obtain ⟨hSw1, hSw2⟩ := hSw; go_simp)
    try with_reducible rfl
  simp only [Act.put, zA, zB, zC]
  refine tk 1 (v := ?_) hHeld rfl (fun w hSw => ?_) ?_
  rotate_left
  · (obtain ⟨hSw1, hSw2⟩ := hSw; go_simp)
    try with_reducible rfl
  simp only [Act.put, zA, zB, zC]
  refine tk 2 (v := ?_) hHeld rfl (fun w hSw => ?_) ?_
  rotate_left
  · (obtain ⟨hSw1, hSw2⟩ := hSw; go_simp)
    try with_reducible rfl
  simp only [Act.put, zA, zB, zC]
  refine tk 3 (v := ?_) hHeld rfl (fun w hSw => ?_) ?_
  rotate_left
  · (obtain ⟨hSw1, hSw2⟩ := hSw; go_simp)
    try with_reducible rfl
  simp only [Act.put, zA, zB, zC]
  refine tk 4 (v := ?_) hHeld rfl (fun w hSw => ?_) ?_
  rotate_left
  · (obtain ⟨hSw1, hSw2⟩ := hSw; go_simp)
    try with_reducible rfl
  simp only [Act.put, zA, zB, zC]
  refine tk 5 (v := ?_) hHeld rfl (fun w hSw => ?_) ?_
  rotate_left
  · (obtain ⟨hSw1, hSw2⟩ := hSw; go_simp)
    try with_reducible rfl
  simp only [Act.put, zA, zB, zC]
  refine tk 6 (v := ?_) hHeld rfl (fun w hSw => ?_) ?_
  rotate_left
  · (obtain ⟨hSw1, hSw2⟩ := hSw; go_simp)
    try with_reducible rfl
  simp only [Act.put, zA, zB, zC]
  refine tk 7 (v := ?_) hHeld rfl (fun w hSw => ?_) ?_
  rotate_left
  · (obtain ⟨hSw1, hSw2⟩ := hSw; go_simp)
    try with_reducible rfl
  simp only [Act.put, zA, zB, zC]
  refine tk 8 (v := ?_) hHeld rfl (fun w hSw => ?_) ?_
  rotate_left
  · (obtain ⟨hSw1, hSw2⟩ := hSw; go_simp)
    try with_reducible rfl
  simp only [Act.put, zA, zB, zC]
  refine tk 9 (v := ?_) hHeld rfl (fun w hSw => ?_) ?_
  rotate_left
  · (obtain ⟨hSw1, hSw2⟩ := hSw; go_simp)
    try with_reducible rfl
  simp only [Act.put, zA, zB, zC]
  refine tk 10 (v := ?_) hHeld rfl (fun w hSw => ?_) ?_
  rotate_left
  · (obtain ⟨hSw1, hSw2⟩ := hSw; go_simp)
    try with_reducible rfl
  simp only [Act.put, zA, zB, zC]
  refine tk 11 (v := ?_) hHeld rfl (fun w hSw => ?_) ?_
  rotate_left
  · (obtain ⟨hSw1, hSw2⟩ := hSw; go_simp)
    try with_reducible rfl
  simp only [Act.put, zA, zB, zC]
  refine wpAnyH_done (by kernel_rfl) ?_ _
  refine NoPanic.normal ?_
  clear hHeld d1 d3
  have hb5 : w4.drew.heap[r]? = some (.cells (headN kb) 37 (0, 0)) := HB4.out
  obtain ⟨w5, hw5⟩ : ∃ w5, w4.drew = w5 := ⟨_, rfl⟩
  rw [hw5] at hb5 HD ⊢
  clear hw5
  have hk5 := HSide.out w5 HD.out
  have d0 : w5.cell? ⟨r, 0, none⟩ = some (.pointer (some ⟨kb, 0, none⟩)) := cell_of_block hb5 rfl
  have hsc : scanF [] [99] [100] = [] := by simp [scanF, sortF]
  have hs5 := kat_scan hk5.at' (by simp) [99] [100]
  rw [hsc] at hs5
  have HS5 := Lib.hid (show Calls Tryz.prog 97 #[.pointer (some ⟨kb, 0, none⟩), .string ⟨#[99]⟩, .string ⟨#[100]⟩] w5 fun e w' => ∃ v, e = .returned v ∧ Puts w' w5.heap.size v [] ∧ Chg (fun _ => False) w5 w' from hs5)
  have HB5 := Lib.hid hb5
  clear hb5 hk5 hsc hs5
  go_wp2_with (first
    | (go_at_call 97; refine HS5.out.mono ?_; rintro e w6 ⟨v6, rfl, hp6, hc6⟩
       obtain ⟨o6, p6, hv6, -⟩ := hp6.slice
       have HC6 := Lib.hid hc6
       simp only [List.map_nil, List.length_nil] at hv6
       subst hv6
       clear hp6 hc6))
  go_loopw [5, 53] (fun u j wr => u = .int .i64 0 ∧ j = .int .i64 0 ∧ w6 = wr) (fun _ _ _ => 0)
  · exact ⟨rfl, rfl, rfl⟩
  obtain ⟨rfl, rfl, rfl⟩ := hrel
  have hc6 := HD.out.trans' (HC6.out.mono (fun _ _ e => e.elim) : Chg (· = r) w5 w6)
  have hk6 := HSide.out w6 hc6
  have hb6 := HC6.out.at HB5.out id
  have e0 : w6.cell? ⟨r, 0, none⟩ = some (.pointer (some ⟨kb, 0, none⟩)) := cell_of_block hb6 rfl
  have e3 : w6.cell? ⟨r, 3, none⟩ = some (.slice none 0 0) := cell_of_block hb6 rfl
  have HGe := Lib.hid (show Calls Tryz.prog 99 #[.pointer (some ⟨kb, 0, none⟩), .string ⟨#[116]⟩] w6 fun e w' => e = .returned (.tuple #[.string ⟨#[]⟩, .bool false]) ∧ w6 = w' from kat_get hk6.at' [116] (by decide))
  have HLe := Lib.hid (show Calls Tryz.prog 100 #[.pointer (some ⟨kb, 0, none⟩)] w6 fun e w' => e = .returned (.int .i64 0) ∧ w6 = w' from kat_len hk6.at')
  have HB6 := Lib.hid hb6
  have HC6' := Lib.hid hc6
  have HK6 := Lib.hid hk6
  clear hc6 hk6 hb6 d0
  go_wp2_with (first
    | (go_at_call 99; refine HGe.out.mono ?_; rintro e w' ⟨rfl, rfl⟩)
    | (go_at_call 100; refine HLe.out.mono ?_; rintro e w' ⟨rfl, rfl⟩))
  go_ret
  exact ⟨rfl, HK6.out, HB6.out, HC6'.out⟩

theorem open_blank (w : World) (hd : DS P W w d X) (hb : Blank X) (hf : X.fuse = -1) :
    Calls Tryz.prog 24 #[.pointer (some ⟨d, 0, none⟩)] w fun e w' => ∃ r, e = .returned (.tuple #[.pointer (some ⟨r, 0, none⟩), .int .i64 0]) ∧ ∃ Q X' recs a m, RL Q W w' r d X' recs 1 a m nilS ∧ X'.B.length = X.B.length ∧ (∀ g, g < w.heap.size → ¬ P g → ¬ Q g) ∧ Chg P w w' := by
  have HO := Lib.hid (ks_open_new w hd hb hf)
  have HD := Lib.hid hd
  clear hd hb hf
  go_enter Tryz.func24, Tryz.ntmps24
  go_wp2_with (first
    | (go_at_call 31; fail))
  refine HO.out.mono ?_
  rintro e w2 ⟨b, rfl, l, q, m, X', recs, s, a, P2, hk2, rfl, rfl, hst, hf, hlen⟩
  obtain rfl := rep_nil hk2.rep
  obtain ⟨w3, hw3⟩ : ∃ w3, w2.alloc (.cells #[.pointer (some ⟨b, 0, none⟩), .slice none 0 0, .int .i64 0, .slice none 0 0, .slice none 0 0] 37) = w3 := ⟨_, rfl⟩
  have hca : Chg (fun _ => False) w2 w3 := by rw [← hw3]; exact (Chg.refl _ _).alloc _
  have hba : w3.heap[w2.heap.size]? = some (.cells (headN b) 37 (0, 0)) := by rw [← hw3]; exact block_alloc_new w2 _
  have hks := hk2.ks.fresh hca
  have hbe := hk2.ks.made (w' := w3) (Nat.le_refl w2.heap.size) (lt_of_block hba)
  have HL := Lib.hid (load_nil w3 hks hba hbe hk2.ks.chg.size)
  have HBe := Lib.hid (And.intro hbe hba)
  have HK2 := Lib.hid hk2
  have HSt := Lib.hid (And.intro hst (And.intro hf hlen))
  have HCa := Lib.hid hca
  clear hca hba hks hbe hk2 hst hf hlen HO
  dsimp only
  go_wp2_with (first
    | (go_at_call 56; fail))
  try rw [hw3]
  clear hw3
  refine HL.out.mono ?_
  rintro e w4 ⟨rfl, hk4, hb4, hc4⟩
  have HB4 := Lib.hid hb4
  have HK4 := Lib.hid hk4
  have HC4 := Lib.hid hc4
  obtain ⟨r, hr⟩ : ∃ r, w2.heap.size = r := ⟨_, rfl⟩
  rw [hr] at HBe HB4 HC4 ⊢
  have HR := Lib.hid hr
  clear hb4 hk4 hc4 HL hr
  dsimp only
  go_wp2_with fail
  go_ret2
  have hs2 := HK2.out.chg.size
  have hwW := HD.out.chg
  have hrl : r < w3.heap.size := lt_of_block HBe.out.2
  have hs4 := HC4.out.size
  have hks := HK4.out
  have hrks : RKS P2 W w4 r b l q d X' (lvW [] 1 a []) [] (fun _ => False) nilS (.slice none 0 0) (.slice none 0 0) (.slice none 0 0) := ⟨hks, ⟨by simpa [headN, nilS] using HB4.out, PksAt.nil _ _, PksAt.nil _ _, ⟨by simp [nilS], Or.inl ⟨rfl, by simp [nilS]⟩⟩, by simp [nilS], by simp [nilS]⟩, Beside.more HBe.out.1 hs4, fun k hk => hk.elim, fun g hg => by simp [Value.ownBlock] at hg, by rw [← HR.out]; exact HK2.out.ks.chg.size, fun k hk => hk.elim, id, fun g hg => by simp [Value.ownBlock] at hg⟩
  have hsort : sortF [] = rootL nilS := by simp [sortF, rootL, nilS, dlst, lst, tlst]
  refine ⟨r, rfl, fun g => P2 g ∨ g = q ∨ g = r, X', [], a, [], ⟨⟨⟨P2, b, l, q, (fun _ => False), _, _, _, hrks, fun g hg => ?_⟩, fun g hg => ?_, fun g hg => ?_, RGood.nil, hsort⟩, HSt.out.1, HK2.out.rep, HSt.out.2.1⟩, HSt.out.2.2, fun g hg hp e => ?_, ?_⟩
  · rcases hg with e | e | e | e | e
    · exact Or.inl e
    · exact Or.inr (Or.inl e)
    · exact Or.inr (Or.inr e)
    · exact e.elim
    · simp [Value.ownBlock] at e
  · rcases hg with e | e | e
    · exact hks.at'.lt g e
    · rw [e]; exact hks.at'.db.ltq
    · rw [e]; omega
  · rcases hg with e | e | e
    · exact hks.new g e
    · rw [e]; exact hks.nq
    · rw [e]; exact hrks.nr
  · have h1 := HK2.out.off g hg hp
    rcases e with e | e | e
    · exact h1.1 e
    · exact h1.2.1 e
    · have := HR.out; have := HK2.out.chg.size; omega
  · have hc24 : Chg (· = r) w2 w4 := (HCa.out.mono (fun _ _ e => e.elim)).trans' HC4.out
    exact HK2.out.chg.trans hc24 (fun i hi e => by have := HR.out; have := HK2.out.chg.size; omega)

end Go.Proofs.YtbjagmlbamjdbaaGreat.roots
end

section
namespace Go.Proofs.YtbjagmlbamjdbaaGreat.roots
open Go.RowKit Go.Maps Go.My Go.ChangeMaps disks bufs wals kvs
set_option maxRecDepth 100000

variable {w w' : World}

theorem number_is (w : World) (n : Nat) (h1 : 1 ≤ n) (h2 : n ≤ 1099511627776) :
    Calls Tryz.prog 98 #[strV (eight n)] w fun e w' => e = .returned (.tuple #[.int .i64 (n : Int), .bool true]) ∧ Chg (fun _ => False) w w' := by
  obtain ⟨s, hs⟩ : ∃ s, strV (eight n) = .string s := ⟨_, rfl⟩
  have hsz : s.size = 8 := by rw [str_size _ s hs, eight_length]
  have hsd : s.data.toList = eight n := by rw [strV_string _ s hs]
  rw [hs]
  clear hs
  obtain ⟨v, w1, hcv, hsl, hch, g, cap, hv, -⟩ := string_bytes w s
  rw [hsd] at hsl
  rw [hsz] at hv
  subst hv
  have hof : ofBe (eight n) = n := by
    rw [eight_be, ofBe_be]
    have : (256 : Nat) ^ 8 = 18446744073709551616 := by decide
    omega
  have hrf := readFixed_any w1 8 (Or.inr rfl) _ 8 cap (eight n) hsl (eight_length n)
  rw [hof] at hrf
  have HRf := Lib.hid hrf
  have HCh := Lib.hid hch
  have n1 : (1 : Int) ≤ (n : Int) := by omega
  have n2 : (n : Int) ≤ 1099511627776 := by omega
  clear hsd hsl hch hof hrf
  go_enter Tryz.func98, Tryz.ntmps98
  go_wp2_with (first
    | (go_at_call 150; refine HRf.out.mono ?_; rintro e w' ⟨rfl, rfl⟩))
  go_ret2
  exact ⟨rfl, HCh.out⟩

end Go.Proofs.YtbjagmlbamjdbaaGreat.roots
end

section
namespace Go.Proofs.YtbjagmlbamjdbaaGreat.roots
open Go.RowKit Go.Maps Go.My Go.ChangeMaps disks bufs wals kvs
set_option maxRecDepth 100000

variable {w w' : World}

def CutAt (w : World) (v : Value) (b : Txt) : Prop := ∃ g off cap, v = .slice (some ⟨g, off, none⟩) b.length cap ∧ b.length ≤ cap ∧ SlAt w v (cellsB b)
theorem CutAt.fresh {v : Value} {b : Txt} (h : CutAt w v b) (hc : Chg (fun _ => False) w w') : CutAt w' v b := by
  obtain ⟨g, off, cap, h1, h2, h3⟩ := h
  exact ⟨g, off, cap, h1, h2, h3.kept hc⟩
theorem cut_of {g off cap p m c' : Nat} {b : Txt} (h : SlAt w (.slice (some ⟨g, off, none⟩) b.length cap) (cellsB b)) (hp : p + m ≤ b.length) (hm : m ≤ c') {o2 : Nat} (ho : o2 = off + p ∨ m = 0) : CutAt w (.slice (some ⟨g, o2, none⟩) m c') ((b.drop p).take m) := by
  have hl : ((b.drop p).take m).length = m := by rw [List.length_take, List.length_drop]; omega
  refine ⟨g, o2, c', by rw [hl], by rw [hl]; exact hm, ?_⟩
  rcases ho with rfl | rfl
  · exact slat_sub h g off p m c' rfl hp
  · exact ⟨some ⟨g, o2, none⟩, c', by simp [cellsB], fun hne => by simp [cellsB] at hne, fun _ _ _ i x hx => by simp [cellsB] at hx⟩

set_option maxHeartbeats 1000000 in
theorem split_is (w : World) {g off0 N0 cap0 : Nat} {b : Txt} (h : CutAt w (.slice (some ⟨g, off0, none⟩) N0 cap0) b) (hb : b.length ≤ 1000000) (n : Nat) (hn : n ≤ b.length) :
    Calls Tryz.prog 210 #[.slice (some ⟨g, off0, none⟩) N0 cap0, .int .i64 (n : Int)] w fun e w' => ∃ o1 c1 o2 c2, e = .returned (.tuple #[.slice (some ⟨g, o1, none⟩) n c1, .slice (some ⟨g, o2, none⟩) (b.length - n) c2, .bool true]) ∧ CutAt w' (.slice (some ⟨g, o1, none⟩) n c1) (b.take n) ∧ CutAt w' (.slice (some ⟨g, o2, none⟩) (b.length - n) c2) (b.drop n) ∧ Chg (fun _ => False) w w' := by
  obtain ⟨g2, off, cap, e, hcap, h⟩ := h
  cases e
  have i0 : (0 : Int) ≤ (n : Int) := by omega
  have i1 : (b.length : Int) ≤ 1000000 := by omega
  have i2 : (b.length : Int) ≤ (cap0 : Int) := by omega
  have i3 : (n : Int) ≤ (b.length : Int) := by omega
  have i4 : (n : Int) ≤ (cap0 : Int) := by omega
  have i5 : ¬ (b.length : Int) < (n : Int) := by omega
  have H := Lib.hid h
  have HI := Lib.hid (And.intro hcap hn)
  clear h hcap hn hb
  go_enter Tryz.func210, Tryz.ntmps210
  go_wp2_with fail
  refine wp_region_fresh (by kernel_rfl) (by kernel_rfl) ?_
  repeat (go_big_quiet_step (fail))
  all_goals
    refine wpQuiet_nil ?_
    rintro _ ⟨n1, rfl⟩
    obtain ⟨w1, hw1⟩ : ∃ w1, n1.val = w1 := ⟨_, rfl⟩
    have hc1 : Chg (fun _ => False) w w1 := by rw [← hw1]; exact n1.chg
    rw [hw1]
    go_wp2_with fail
  all_goals refine bodyPost_ret (results_tmp3 rfl _ _ _) rfl ?_
  all_goals have hs1 := H.out.kept hc1
  all_goals refine ⟨_, _, _, _, rfl, ?_, ?_, hc1⟩
  · have h1 := cut_of (p := 0) (m := n) (c' := n) (o2 := off0) hs1 (by have := HI.out; omega) (Nat.le_refl _) (Or.inl rfl)
    rw [List.drop_zero] at h1
    exact h1
  · have h1 := cut_of (p := n) (m := b.length - n) (c' := 0) (o2 := off0) hs1 (by have := HI.out; omega) (by have := HI.out; omega) (Or.inr (by have := HI.out; omega))
    rw [List.take_of_length_le (by rw [List.length_drop]; omega)] at h1
    exact h1
  · have h1 := cut_of (p := 0) (m := n) (c' := cap0) (o2 := off0) hs1 (by have := HI.out; omega) (by have := HI.out; omega) (Or.inl rfl)
    rw [List.drop_zero] at h1
    exact h1
  · have h1 := cut_of (p := n) (m := b.length - n) (c' := cap0 - n) (o2 := off0 + n) hs1 (by have := HI.out; omega) (by have := HI.out; omega) (Or.inl rfl)
    rw [List.take_of_length_le (by rw [List.length_drop]; omega)] at h1
    exact h1

end Go.Proofs.YtbjagmlbamjdbaaGreat.roots
end

section
namespace Go.Proofs.YtbjagmlbamjdbaaGreat.roots
open Go.RowKit Go.Maps Go.My Go.ChangeMaps disks bufs wals kvs
set_option maxRecDepth 100000

variable {w w' : World}

theorem wpList_appR {P : Program} {ops : Array Oper} {rest : List Oper} {o : Oper} {a : Go.Act} {w w' : World} {Q : Exit → Go.Act → World → Prop} (hgd : o.guard = none) (s x : Operand) (t : TypeId)
    (ho : o.op = .call { callee := .builtin .append, args := #[s, x], argTypes := #[t, t] }) {v sv xv : Value} (hs : a.eval s = sv) (hx : a.eval x = xv)
    (hr : (Builtin.append_ #[t, t] o.type #[sv, xv]).run P w = .ok v w') (h : wpList P ops Q rest (a.put o.dst v) w') : wpList P ops Q (o :: rest) a w :=
  wpList_plain hgd fun _ hK => oper_append s x t ho hs hx hr (hK _ _ h)

theorem own_pushR {P : Program} {base : Nat} {t e : TypeId} {i : TypeInfo} {z : Value} {n bytes : Nat} (ht : P.underlying t = some (.slice e)) (hi : P.info? e = some i) (hz : i.zero = some z) (hs : i.size = n) (hb : i.bytes = bytes) (hzs : z.cells.size = n) (hn : 0 < n)
    {v : Value} {l : List (List Value)} (h : OwnRecs w base e n v l) (r : List Value) (hr : r.length = n) (h1 : ∀ u ∈ r, u.oneCell' = true) (hl : l.length ≤ 1000) (hby : bytes ≤ 1000) (hbase : base ≤ w.heap.size) :
    ∃ oa cap w', (Builtin.append_ #[t, t] t #[v, .slice (some ⟨w.heap.size, 0, none⟩) 1 1]).run P (w.alloc (.cells r.toArray e)) = .ok (.slice oa (l.length + 1) cap) w' ∧
      OwnRecs w' base e n (.slice oa (l.length + 1) cap) (l ++ [r]) ∧ Chg (fun k => some k = v.ownBlock) w w' ∧ w.heap.size < w'.heap.size ∧
      ((Value.slice oa (l.length + 1) cap).ownBlock = v.ownBlock ∨ (Value.slice oa (l.length + 1) cap).ownBlock = some (w.heap.size + 1)) := by
  have hca := (Chg.refl (fun _ => False) w).alloc (.cells r.toArray e)
  have hrow := (h.kept hca (fun _ _ h => h)).row
  obtain ⟨v', w4, hap, ho, hg, -, hvn⟩ := run_append_own_at (P := P) (w.alloc (.cells r.toArray e)) base t t e i z n bytes ht hi hz hs hb hzs hn v _ _ hrow ⟨w.heap.size, 0, none⟩ 1 1 r (by omega) (cells_new w r _) h1 (by unfold maxLen; omega)
    (by have : (l.length + 1) * bytes ≤ 1001 * 1000 := Nat.mul_le_mul (by omega) hby
        omega) (by rw [World.size_alloc]; omega)
  obtain ⟨oa, cap, rfl⟩ := own_slice ho
  have hcg := Chg.of_grown hg
  refine ⟨oa, cap, w4, hap, ⟨by simpa using ho, fun y hy => ?_⟩, (hca.mono (fun _ _ h => h.elim)).trans' hcg, by have := hcg.size; rw [World.size_alloc] at this; omega, by rwa [World.size_alloc] at hvn⟩
  rcases List.mem_append.1 hy with h2 | h2
  · exact h.each y h2
  · rw [List.mem_singleton.1 h2]; exact hr

theorem append_noneR {P : Program} (base : Nat) (t ty e : TypeId) (i : TypeInfo) (size : Nat) (ht : P.underlying t = some (.slice e)) (hi : P.info? e = some i)
    (v : Value) (n c : Nat) (xs : List Value) (hown : w.ownsRow base e size v n xs) :
    (Builtin.append_ #[t, t] ty #[v, .slice none 0 c]).run P w = .ok v w := by
  rcases hown.2 with ⟨rfl, rfl⟩ | ⟨g, cap, cur, rfl, _, _, hnc, _⟩
  · simp [Builtin.append_, run_underlying ht, sizeOf, typeInfo, hi, Builtin.lenOf, Builtin.firstCells]
  · simp [Builtin.append_, run_underlying ht, sizeOf, typeInfo, hi, Builtin.lenOf, Builtin.firstCells, hnc, storeCells]

structure PkO (base : Nat) (w : World) (pv : Value) (L : List Pk) : Prop where
  ex : ∃ lv : List Value, OwnRecs w base 90 4 pv (List.zipWith pkC L lv) ∧ lv.length = L.length ∧ ∀ (i : Nat) (p : Pk) (u : Value), L[i]? = some p → lv[i]? = some u → LysAt w (fun b => base ≤ b ∧ b < w.heap.size ∧ pv.ownBlock ≠ some b) u p.man.layers
  txt : ∀ p ∈ L, p.man.name.length ≤ maxLen ∧ p.man.ver.length ≤ maxLen
theorem PkO.nil (base : Nat) (w : World) : PkO base w (.slice none 0 0) [] := ⟨⟨[], OwnRecs.nil _ _ _ _, rfl, by simp⟩, by simp⟩
theorem PkO.len {base : Nat} {pv : Value} {L : List Pk} (h : PkO base w pv L) : ∃ oa cap, pv = .slice oa L.length cap := by
  obtain ⟨lv, h1, h2, -⟩ := h.ex
  obtain ⟨oa, cap, e, -⟩ := h1.slice
  rw [List.length_zipWith, h2, Nat.min_self] at e
  exact ⟨oa, cap, e⟩
theorem PkO.lt {base : Nat} {pv : Value} {L : List Pk} (h : PkO base w pv L) {g : Nat} (hg : pv.ownBlock = some g) : base ≤ g ∧ g < w.heap.size := by
  obtain ⟨lv, h1, -⟩ := h.ex
  exact h1.lt hg
theorem PkO.fresh {base : Nat} {pv : Value} {L : List Pk} (h : PkO base w pv L) (hc : Chg (fun _ => False) w w') : PkO base w' pv L := by
  obtain ⟨lv, h1, h2, h3⟩ := h.ex
  exact ⟨⟨lv, h1.kept hc (fun _ _ h => h), h2, fun i p u hp hu => ((h3 i p u hp hu).fresh hc).wide (fun b hb => ⟨hb.1, Nat.lt_of_lt_of_le hb.2.1 hc.size, hb.2.2⟩)⟩, h.txt⟩
theorem PkO.at {base : Nat} {pv : Value} {L : List Pk} (h : PkO base w pv L) : PksAt w (fun b => base ≤ b ∧ b < w.heap.size) pv L := by
  obtain ⟨lv, h1, h2, h3⟩ := h.ex
  obtain ⟨oa, cap, e, g1, g2⟩ := h1.slice
  have hz : (List.zipWith pkC L lv).length = L.length := by rw [List.length_zipWith, h2, Nat.min_self]
  rw [hz] at e g1
  subst e
  exact ⟨⟨oa, cap, lv, rfl, h2, rows_of_own h1, in_of_own h1 hz (fun b hb1 hb2 => ⟨hb1, hb2⟩), fun i p u hp hu => (h3 i p u hp hu).wide (fun b hb => ⟨hb.1, hb.2.1⟩), g1, g2⟩, h.txt⟩

theorem PkO.push {base : Nat} {pv : Value} {L : List Pk} (h : PkO base w pv L) (p : Pk) (u : Value) (hly : LysAt w (fun b => base ≤ b ∧ b < w.heap.size ∧ pv.ownBlock ≠ some b) u p.man.layers) (ht : p.man.name.length ≤ maxLen ∧ p.man.ver.length ≤ maxLen) (hl : L.length ≤ 1000) (hb : base ≤ w.heap.size) :
    ∃ oa cap w', (Builtin.append_ #[22, 22] 22 #[pv, .slice (some ⟨w.heap.size, 0, none⟩) 1 1]).run Tryz.prog (w.alloc (.cells (pkC p u).toArray 90)) = .ok (.slice oa (L.length + 1) cap) w' ∧
      PkO base w' (.slice oa (L.length + 1) cap) (L ++ [p]) ∧ Chg (fun k => some k = pv.ownBlock) w w' ∧ w.heap.size < w'.heap.size := by
  obtain ⟨i0, hi, hz, his, hib⟩ := info_parts info_pack
  obtain ⟨lv, h1, h2, h3⟩ := h.ex
  have hzl : (List.zipWith pkC L lv).length = L.length := by rw [List.length_zipWith, h2, Nat.min_self]
  obtain ⟨ol, nl, cl, hu⟩ : ∃ ol nl cl, u = .slice ol nl cl := by obtain ⟨a, b, e, -⟩ := hly.is; exact ⟨_, _, _, e⟩
  obtain ⟨oa, cap, w', hap, ho, hc, hsz, hv⟩ := own_pushR (P := Tryz.prog) Tryz.underlying22 hi hz his hib rfl (by decide) h1 (pkC p u) rfl
    (by intro x hx; simp only [pkC, List.mem_cons, List.not_mem_nil, or_false] at hx; rcases hx with rfl | rfl | rfl | rfl <;> first | rfl | (subst hu; rfl)) (by rw [hzl]; omega) (by omega) hb
  rw [hzl] at hap ho hv
  refine ⟨oa, cap, w', hap, ⟨⟨lv ++ [u], ?_, by rw [List.length_append, List.length_append, h2]; rfl, fun i q x hq hx => ?_⟩, fun q hq => ?_⟩, hc, hsz⟩
  · rw [List.zipWith_append (by omega)]
    exact ho
  · have hw : ∀ b, (base ≤ b ∧ b < w.heap.size ∧ pv.ownBlock ≠ some b) → (base ≤ b ∧ b < w'.heap.size ∧ (Value.slice oa (L.length + 1) cap).ownBlock ≠ some b) := fun b hb => ⟨hb.1, by omega, fun e => by
      rcases hv with e2 | e2
      · exact hb.2.2 (e2.symm.trans e)
      · have := Option.some.inj (e2.symm.trans e); omega⟩
    by_cases hil : i < L.length
    · rw [List.getElem?_append_left hil] at hq
      rw [List.getElem?_append_left (by omega)] at hx
      exact ((h3 i q x hq hx).kept hc (fun b hb e => hb.2.2 e.symm)).wide hw
    · rw [List.getElem?_append_right (by omega)] at hq
      rw [List.getElem?_append_right (by omega)] at hx
      have : i - L.length = 0 := by
        have := (List.getElem?_eq_some_iff.1 hq).1
        simp at this
        omega
      rw [h2, this] at hx
      rw [this] at hq
      simp only [List.getElem?_cons_zero, Option.some.injEq] at hq hx
      subst hq; subst hx
      exact (hly.kept hc (fun b hb e => hb.2.2 e.symm)).wide hw
  · rcases List.mem_append.1 hq with hq | hq
    · exact h.txt q hq
    · rw [List.mem_singleton.1 hq]; exact ht

theorem refs_ownR (w3 : World) (la : Option Addr) (lc : Nat) (L : List Rf) (h : RowsAt w3 33 la (L.map rfC)) (hd : ∀ x ∈ L, x.sum.length = 32) (hl : L.length ≤ 20) :
    ∃ ol cl w4, (Builtin.append_ #[86, 86] 86 #[.slice (some ⟨w3.heap.size, 0, none⟩) 0 0, .slice la L.length lc]).run Tryz.prog (w3.alloc (.cells #[] 98)) = .ok (.slice ol L.length cl) w4 ∧
      LysAt w4 (fun b => w3.heap.size ≤ b ∧ b < w4.heap.size) (.slice ol L.length cl) L ∧ Chg (fun _ => False) w3 w4 ∧ w3.heap.size < w4.heap.size := by
  obtain ⟨i0, hi, hz, hs, hb⟩ := info_parts info_ref
  have hca := (Chg.refl (fun _ => False) w3).alloc (.cells #[] 98)
  have heach : ∀ r ∈ L.map rfC, r.length = 33 := fun r hr => by obtain ⟨i, hi⟩ := List.getElem?_of_mem hr; exact h.row i r hi
  cases la with
  | none =>
    have hl0 : L = [] := by
      cases L with
      | nil => rfl
      | cons a l => obtain ⟨b, off, e⟩ := h.spot (by simp); cases e
    subst hl0
    refine ⟨_, _, _, append_noneR (P := Tryz.prog) (w := w3.alloc (.cells #[] 98)) w3.heap.size 86 86 98 i0 33 Tryz.underlying86 hi _ 0 lc [] (own_no w3 _ _), ⟨⟨_, _, rfl, ⟨fun h => absurd rfl h, by simp, by simp⟩, fun h => absurd rfl h, Nat.le_refl _, by unfold maxLen; omega⟩, by simp⟩, hca, by rw [World.size_alloc]; omega⟩
  | some a =>
    obtain ⟨v', w4, hap, ho, hg, -, hvn⟩ := run_append_own_at (P := Tryz.prog) (w3.alloc (.cells #[] 98)) w3.heap.size 86 86 98 i0 _ 33 40 Tryz.underlying86 hi hz hs hb rfl (by decide) _ 0 [] (own_no w3 _ _) a L.length lc (L.map rfC).flatten (by rw [flat_length 33 _ heach, List.length_map])
      (fun j u hu => hca.cell (rows_flat h (by omega) rfl j u hu) id) (one_rf L) (by unfold maxLen; omega) (by omega) (by simp only [World.size_alloc]; omega)
    obtain ⟨oa, cap, rfl⟩ := own_slice ho
    have hcg := Chg.of_grown hg
    have hsz := hcg.size
    rw [World.size_alloc] at hsz
    rw [Nat.zero_add] at hap ho
    have hoR : OwnRecs w4 w3.heap.size 98 33 (.slice oa L.length cap) (L.map rfC) := ⟨by simpa using ho, heach⟩
    obtain ⟨oa', cap', e, g1, g2⟩ := hoR.slice
    rw [List.length_map] at e g1
    cases e
    exact ⟨oa, cap, w4, hap, ⟨⟨oa, cap, rfl, rows_of_own hoR, in_of_own hoR (List.length_map ..) (fun b h1 h2 => ⟨h1, h2⟩), g1, g2⟩, hd⟩, hca.new hcg (fun i e => by simp [Value.ownBlock] at e; omega), by omega⟩

def fewP (p : Pk) : Pk := ⟨p.owner, ⟨p.man.name, p.man.ver, p.man.layers.take 20⟩⟩
def fewF (l : List Pk) : List Pk := (l.take 20).map fewP
theorem rows_takeR {n : Nat} {oa : Option Addr} {l : List (List Value)} (h : RowsAt w n oa l) (m : Nat) : RowsAt w n oa (l.take m) := by
  have hg : ∀ i r, (l.take m)[i]? = some r → l[i]? = some r := fun i r hr => by
    rw [List.getElem?_take] at hr
    split at hr
    · exact hr
    · cases hr
  exact ⟨fun hne => h.spot (by intro e; rw [e] at hne; simp at hne), fun i r hr => h.row i r (hg i r hr), fun b off ho i r j v hi hj => h.cell b off ho i r j v (hg i r hi) hj⟩

def fewF' (l : List Pk) (k : Nat) : List Pk := (l.take k).map fewP

set_option maxHeartbeats 4000000 in
theorem few_is (w : World) {F : Nat → Prop} {v : Value} {l : List Pk} (h : PksAt w F v l) :
    Calls Tryz.prog 9 #[v] w fun e w' => ∃ v', e = .returned v' ∧ PksAt w' (fun b => w.heap.size ≤ b ∧ b < w'.heap.size) v' (fewF l) ∧ Chg (fun _ => False) w w' := by
  obtain ⟨oa, cap, lv, rfl, hlv, hr, -, hly, hcap, hcm⟩ := h.is
  have HR := Lib.hid hr
  have HLy := Lib.hid hly
  have HTxt := Lib.hid h.txt
  clear h hr hly
  go_enter Tryz.func9, Tryz.ntmps9
  go_wp2_with fail
  go_loopw [3, 4] (fun out j wr => ∃ (k : Nat) (ov : Option Addr) (cv : Nat), j = .int .i64 k ∧ out = .slice ov k cv ∧ k ≤ l.length ∧ k ≤ 20 ∧ PkO w.heap.size wr (.slice ov k cv) (fewF' l k) ∧ Chg (fun _ => False) w wr) (fun _ j _ => 20 - (intOf j).toNat)
  · exact ⟨0, none, 0, rfl, rfl, Nat.zero_le _, Nat.zero_le _, PkO.nil _ _, Chg.refl _ _⟩
  obtain ⟨k, ov, cv, rfl, rfl, hk, hk20, hS, hC⟩ := hrel
  have HS := Lib.hid hS
  have HC := Lib.hid hC
  have HLk := Lib.hid (show (fewF' l k).length = k by unfold fewF'; rw [List.length_map, List.length_take]; omega)
  have HBase := Lib.hid hC.size
  clear hS hC
  by_cases hlt : k < l.length
  · have hki : (k : Int) < (l.length : Int) := by omega
    by_cases h20 : k < 20
    · have hk1 : (k : Int) < 20 := by omega
      obtain ⟨p, hp⟩ : ∃ p, l[k]? = some p := ⟨l[k], List.getElem?_eq_getElem hlt⟩
      obtain ⟨u, hu⟩ : ∃ u, lv[k]? = some u := ⟨lv[k]'(by omega), List.getElem?_eq_getElem _⟩
      obtain ⟨b, off, rfl⟩ := HR.out.spot (by intro e; have e2 := congrArg List.length e; rw [List.length_zipWith, List.length_nil] at e2; omega)
      obtain ⟨d0, d1, d2, d3⟩ := pk_cells (HR.out.kept HC.out (fun _ _ h => h)) hp hu
      have hlyk := (HLy.out k p u hp hu).fresh HC.out
      have HTx := Lib.hid (HTxt.out p (List.mem_of_getElem? hp))
      have HP := Lib.hid hp
      obtain ⟨la, lc, rfl, hrr, -, hlc, hlm⟩ := hlyk.is
      have HDg := Lib.hid (show ∀ x ∈ p.man.layers.take 20, x.sum.length = 32 from fun x hx => hlyk.dig x (List.mem_of_mem_take hx))
      have hrt := rows_takeR hrr 20
      rw [← List.map_take] at hrt
      obtain ⟨nm, hnm⟩ : ∃ s, strV p.man.name = .string s := ⟨_, rfl⟩
      obtain ⟨vr, hvr⟩ : ∃ s, strV p.man.ver = .string s := ⟨_, rfl⟩
      rw [hnm] at d1
      rw [hvr] at d2
      have HN1 := Lib.hid hnm
      have HN2 := Lib.hid hvr
      clear hp hu hlyk hnm hvr
      by_cases h3 : 20 < p.man.layers.length
      · have h3i : (20 : Int) < (p.man.layers.length : Int) := by omega
        have hlen : (p.man.layers.take 20).length = 20 := by rw [List.length_take]; omega
        have hNs := block_alloc_new wr (.cells #[.int .i64 p.owner, .string nm, .string vr, .slice la 20 lc] 90)
        have hca := (Chg.refl (fun _ => False) wr).alloc (.cells #[.int .i64 p.owner, .string nm, .string vr, .slice la 20 lc] 90)
        have hrt2 := hrt.kept hca (fun _ _ h => h)
        obtain ⟨ol, cl, w4, hapA, hlyA, hcA, hszA⟩ := refs_ownR (wr.alloc (.cells #[.int .i64 p.owner, .string nm, .string vr, .slice la 20 lc] 90)) la lc (p.man.layers.take 20) hrt2 HDg.out (by rw [List.length_take]; omega)
        rw [hlen] at hapA hlyA
        rw [World.size_alloc] at hapA
        have hX4 := hcA.at hNs id
        have hX5 := block_setCell (i := 3) (v := .slice ol 20 cl) hX4
        have hs5 : (w4.setCell ⟨wr.heap.size, 3, none⟩ (.slice ol 20 cl)).heap.size = w4.heap.size := by simp [World.setCell]
        have hc45 : Chg (· = wr.heap.size) w4 (w4.setCell ⟨wr.heap.size, 3, none⟩ (.slice ol 20 cl)) := Chg.setCell (S := (· = wr.heap.size)) (Chg.refl _ _) (fun _ => rfl) _
        have hc5 : Chg (fun _ => False) wr (w4.setCell ⟨wr.heap.size, 3, none⟩ (.slice ol 20 cl)) := (hca.trans' hcA).new hc45 (fun i e => by omega)
        have hs3 : ((wr.alloc (.cells #[.int .i64 p.owner, .string nm, .string vr, .slice la 20 lc] 90))).heap.size = wr.heap.size + 1 := World.size_alloc _ _
        have hbase := HBase.out
        have hown : ∀ b, (Value.slice ov k cv).ownBlock = some b → w.heap.size ≤ b ∧ b < wr.heap.size := fun b hb => HS.out.lt hb
        obtain ⟨o6, c6, w6, hapB, hoB, hcB, hszB⟩ := (HS.out.fresh hc5).push (fewP p) (.slice ol 20 cl) ((hlyA.kept hc45 (fun b hb e => by have := hb.1; omega)).wide (fun b hb => ⟨by have := hb.1; omega, by have := hb.2; omega, fun e => by have := hown b e; have := hb.1; omega⟩)) (HTx.out) (by rw [HLk.out]; omega) (by have := hc5.size; omega)
        rw [HLk.out, hs5] at hapB
        rw [HLk.out] at hoB
        have hrowB : (pkC (fewP p) (.slice ol 20 cl)).toArray = #[.int .i64 p.owner, .string nm, .string vr, .slice ol 20 cl] := by
          unfold pkC fewP; simp only; rw [HN1.out, HN2.out]
        rw [hrowB] at hapB
        have y3 : w4.cell? ⟨wr.heap.size, 3, none⟩ = some (.slice la 20 lc) := cell_of_block hX4 rfl
        have yz : w4.frozen? ⟨wr.heap.size, 3, none⟩ = false := free_of_block hX4
        have v0 : (w4.setCell ⟨wr.heap.size, 3, none⟩ (.slice ol 20 cl)).cell? ⟨wr.heap.size, 0, none⟩ = some (.int .i64 p.owner) := cell_of_block hX5 rfl
        have v1 : (w4.setCell ⟨wr.heap.size, 3, none⟩ (.slice ol 20 cl)).cell? ⟨wr.heap.size, 1, none⟩ = some (.string nm) := cell_of_block hX5 rfl
        have v2 : (w4.setCell ⟨wr.heap.size, 3, none⟩ (.slice ol 20 cl)).cell? ⟨wr.heap.size, 2, none⟩ = some (.string vr) := cell_of_block hX5 rfl
        have v3 : (w4.setCell ⟨wr.heap.size, 3, none⟩ (.slice ol 20 cl)).cell? ⟨wr.heap.size, 3, none⟩ = some (.slice ol 20 cl) := cell_of_block hX5 rfl
        have HOB := Lib.hid hoB
        have HCB := Lib.hid ((hc5.mono (fun _ _ h => h.elim) : Chg (fun b => some b = (Value.slice ov k cv).ownBlock) wr _).trans' hcB)
        have HOwn := Lib.hid hown
        clear hX4 hX5 hoB hcB hs5 hc45 hc5 hs3 hown hrowB hlyA hcA hszA
        go_wp2_with (first
          | (at_builtin; refine wpList_appR rfl _ _ _ rfl rfl rfl hapA ?_)
          | (at_builtin; refine wpList_appR rfl _ _ _ rfl rfl rfl hapB ?_))
        clear hapA hapB y3 yz v0 v1 v2 v3
        have htk : fewF' l (k + 1) = fewF' l k ++ [fewP p] := by
          unfold fewF'
          rw [List.take_add_one, HP.out, Option.toList_some, List.map_append]; rfl
        refine ⟨⟨k + 1, _, _, by go_num, rfl, hlt, h20, by rw [htk]; exact HOB.out, HC.out.new HCB.out (fun b e => (HOwn.out b e.symm).1)⟩, by simp [intOf]; omega⟩
      · have h3i : ¬ (20 : Int) < (p.man.layers.length : Int) := by omega
        have hlen : (p.man.layers.take 20).length = p.man.layers.length := by rw [List.length_take]; omega
        have hNs := block_alloc_new wr (.cells #[.int .i64 p.owner, .string nm, .string vr, .slice la p.man.layers.length lc] 90)
        have hca := (Chg.refl (fun _ => False) wr).alloc (.cells #[.int .i64 p.owner, .string nm, .string vr, .slice la p.man.layers.length lc] 90)
        have hrt2 := hrt.kept hca (fun _ _ h => h)
        obtain ⟨ol, cl, w4, hapA, hlyA, hcA, hszA⟩ := refs_ownR (wr.alloc (.cells #[.int .i64 p.owner, .string nm, .string vr, .slice la p.man.layers.length lc] 90)) la lc (p.man.layers.take 20) hrt2 HDg.out (by rw [List.length_take]; omega)
        rw [hlen] at hapA hlyA
        rw [World.size_alloc] at hapA
        have hX4 := hcA.at hNs id
        have hX5 := block_setCell (i := 3) (v := .slice ol p.man.layers.length cl) hX4
        have hs5 : (w4.setCell ⟨wr.heap.size, 3, none⟩ (.slice ol p.man.layers.length cl)).heap.size = w4.heap.size := by simp [World.setCell]
        have hc45 : Chg (· = wr.heap.size) w4 (w4.setCell ⟨wr.heap.size, 3, none⟩ (.slice ol p.man.layers.length cl)) := Chg.setCell (S := (· = wr.heap.size)) (Chg.refl _ _) (fun _ => rfl) _
        have hc5 : Chg (fun _ => False) wr (w4.setCell ⟨wr.heap.size, 3, none⟩ (.slice ol p.man.layers.length cl)) := (hca.trans' hcA).new hc45 (fun i e => by omega)
        have hs3 : ((wr.alloc (.cells #[.int .i64 p.owner, .string nm, .string vr, .slice la p.man.layers.length lc] 90))).heap.size = wr.heap.size + 1 := World.size_alloc _ _
        have hbase := HBase.out
        have hown : ∀ b, (Value.slice ov k cv).ownBlock = some b → w.heap.size ≤ b ∧ b < wr.heap.size := fun b hb => HS.out.lt hb
        obtain ⟨o6, c6, w6, hapB, hoB, hcB, hszB⟩ := (HS.out.fresh hc5).push (fewP p) (.slice ol p.man.layers.length cl) ((hlyA.kept hc45 (fun b hb e => by have := hb.1; omega)).wide (fun b hb => ⟨by have := hb.1; omega, by have := hb.2; omega, fun e => by have := hown b e; have := hb.1; omega⟩)) (HTx.out) (by rw [HLk.out]; omega) (by have := hc5.size; omega)
        rw [HLk.out, hs5] at hapB
        rw [HLk.out] at hoB
        have hrowB : (pkC (fewP p) (.slice ol p.man.layers.length cl)).toArray = #[.int .i64 p.owner, .string nm, .string vr, .slice ol p.man.layers.length cl] := by
          unfold pkC fewP; simp only; rw [HN1.out, HN2.out]
        rw [hrowB] at hapB
        have y3 : w4.cell? ⟨wr.heap.size, 3, none⟩ = some (.slice la p.man.layers.length lc) := cell_of_block hX4 rfl
        have yz : w4.frozen? ⟨wr.heap.size, 3, none⟩ = false := free_of_block hX4
        have v0 : (w4.setCell ⟨wr.heap.size, 3, none⟩ (.slice ol p.man.layers.length cl)).cell? ⟨wr.heap.size, 0, none⟩ = some (.int .i64 p.owner) := cell_of_block hX5 rfl
        have v1 : (w4.setCell ⟨wr.heap.size, 3, none⟩ (.slice ol p.man.layers.length cl)).cell? ⟨wr.heap.size, 1, none⟩ = some (.string nm) := cell_of_block hX5 rfl
        have v2 : (w4.setCell ⟨wr.heap.size, 3, none⟩ (.slice ol p.man.layers.length cl)).cell? ⟨wr.heap.size, 2, none⟩ = some (.string vr) := cell_of_block hX5 rfl
        have v3 : (w4.setCell ⟨wr.heap.size, 3, none⟩ (.slice ol p.man.layers.length cl)).cell? ⟨wr.heap.size, 3, none⟩ = some (.slice ol p.man.layers.length cl) := cell_of_block hX5 rfl
        have HOB := Lib.hid hoB
        have HCB := Lib.hid ((hc5.mono (fun _ _ h => h.elim) : Chg (fun b => some b = (Value.slice ov k cv).ownBlock) wr _).trans' hcB)
        have HOwn := Lib.hid hown
        clear hX4 hX5 hoB hcB hs5 hc45 hc5 hs3 hown hrowB hlyA hcA hszA
        go_wp2_with (first
          | (at_builtin; refine wpList_appR rfl _ _ _ rfl rfl rfl hapA ?_)
          | (at_builtin; refine wpList_appR rfl _ _ _ rfl rfl rfl hapB ?_))
        clear hapA hapB y3 yz v0 v1 v2 v3
        have htk : fewF' l (k + 1) = fewF' l k ++ [fewP p] := by
          unfold fewF'
          rw [List.take_add_one, HP.out, Option.toList_some, List.map_append]; rfl
        refine ⟨⟨k + 1, _, _, by go_num, rfl, hlt, h20, by rw [htk]; exact HOB.out, HC.out.new HCB.out (fun b e => (HOwn.out b e.symm).1)⟩, by simp [intOf]; omega⟩
    · have hk1 : ¬ (k : Int) < 20 := by omega
      have HK := Lib.hid (show fewF' l k = fewF l by unfold fewF' fewF; rw [show k = 20 by omega])
      go_wp2_with fail
      go_ret
      exact ⟨_, rfl, by rw [← HK.out]; exact HS.out.at, HC.out⟩
  · have hki : ¬ (k : Int) < (l.length : Int) := by omega
    have HK := Lib.hid (show fewF' l k = fewF l by unfold fewF' fewF; rw [List.take_of_length_le (by omega), List.take_of_length_le (by omega)])
    go_wp2_with fail
    go_ret
    exact ⟨_, rfl, by rw [← HK.out]; exact HS.out.at, HC.out⟩

end Go.Proofs.YtbjagmlbamjdbaaGreat.roots
end
