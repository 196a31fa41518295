/-
  CoordAll: plays, the walk.
-/
import Derived.Test.YtogjjkbgagedpaaCoGO
namespace Go.Proofs.Ytogjjkbgagedpaa.coordg
open Go.RowKit Go.Maps Go.My Go.ChangeMaps coords
set_option maxRecDepth 100000

variable {w w' : World}

theorem results3 {P : Program} {fn : Func} {p a b : Tmp} {t : TypeId} (h : fn.results = #[.cell p t, .tmp a, .tmp b]) (tmps : Array Value) {g : Nat} (hp : tmps.getD p undef = .pointer (some ⟨g, 0, none⟩))
    {v : Value} (h1 : (loadVar t ⟨g, 0, none⟩).run P w = .ok v w) : (results fn tmps).run P w = .ok (.tuple #[v, tmps.getD a undef, tmps.getD b undef]) w := by
  have hp' : tmps[p]?.getD undef = .pointer (some ⟨g, 0, none⟩) := by simpa using hp
  simp [results, h, hp', asAddr, h1, Result.andThen]

theorem size_heard : (Try.prog.info? 47).map (·.size) = some 6 := by kernel_rfl

/-- A play under way: behind i acts. -/
structure Play (W wr : World) (hb c : Nat) (Fc : Nat → Prop) (lim : Int) (q n i : Nat) (S : Bool) (yes : List Int) (yv : Value) (com ab : Int) (L : List (Int × Ent)) : Prop where
  heard : wr.heap[hb]? = some (.cells (heardC S yv com ab 0) 47 (0, 0))
  yesr : wr.ownsRow (hb + 1) 3 1 yv yes.length (yes.map (Value.int .i64))
  ylen : yes.length ≤ i
  all : AllIs wr c Fc lim q L
  com0 : 0 ≤ com ∧ com ≤ 6 * i
  ncell : wr.heap[W.heap.size]? = some (.cells #[.int .i64 n] 3 (0, 0))
  res : Arr wr (W.heap.size + 1) 47 [.bool false, .bool false, .slice none 0 0, .int .i64 0, .int .i64 0, .int .i64 0]
  foot : ∀ b, Foot L Fc b → W.heap.size + 1 < b ∧ b ≠ hb ∧ yv.ownBlock ≠ some b
  hbW : W.heap.size + 1 < hb
  chg : Chg (fun _ => False) W wr

theorem Play.fresh {W wr wr' : World} {hb c : Nat} {Fc : Nat → Prop} {lim : Int} {q n i : Nat} {S : Bool} {yes : List Int} {yv : Value} {com ab : Int} {L : List (Int × Ent)} (h : Play W wr hb c Fc lim q n i S yes yv com ab L) (hc : Chg (fun _ => False) wr wr') : Play W wr' hb c Fc lim q n i S yes yv com ab L :=
  ⟨hc.at h.heard id, row_kept h.yesr hc (fun _ _ h => h), h.ylen, h.all.fresh hc, h.com0, hc.at h.ncell id, hc.at h.res id, h.foot, h.hbW, h.chg.trans' hc⟩

/-- What a call on the coordinator leaves. -/
theorem Play.call {W wr wr' : World} {hb c : Nat} {Fc : Nat → Prop} {lim : Int} {q n i : Nat} {S : Bool} {yes : List Int} {yv : Value} {com ab : Int} {L L' : List (Int × Ent)} (h : Play W wr hb c Fc lim q n i S yes yv com ab L) (hc : Chg (Foot L Fc) wr wr') (ha : AllIs wr' c Fc lim q L') (hF : ∀ b, Foot L' Fc b → Foot L Fc b ∨ wr.heap.size ≤ b) : Play W wr' hb c Fc lim q n i S yes yv com ab L' := by
  have hsz := lt_of_block h.heard
  have hb0 := h.hbW
  refine ⟨hc.at h.heard (fun hf => (h.foot hb hf).2.1 rfl), row_kept h.yesr hc (fun g hg hf => (h.foot g hf).2.2 hg), h.ylen, ha, h.com0, hc.at h.ncell (fun hf => by have := (h.foot _ hf).1; omega), hc.at h.res (fun hf => by have := (h.foot _ hf).1; omega), fun b hb' => ?_, h.hbW, h.chg.new hc (fun b hf => by have := (h.foot b hf).1; omega)⟩
  rcases hF b hb' with h1 | h1
  · exact h.foot b h1
  · refine ⟨by omega, by omega, fun e => ?_⟩
    have := (h.yesr.lt b e).2
    omega

/-- What is heard turns. -/
theorem Play.hears {W wr wr' : World} {hb c : Nat} {Fc : Nat → Prop} {lim : Int} {q n i : Nat} {S S' : Bool} {yes : List Int} {yv : Value} {com ab com' ab' : Int} {L : List (Int × Ent)} (h : Play W wr hb c Fc lim q n i S yes yv com ab L) (hc : Chg (· = hb) wr wr') (hh : wr'.heap[hb]? = some (.cells (heardC S' yv com' ab' 0) 47 (0, 0))) {i' : Nat} (hi : i ≤ i') (hcom : 0 ≤ com' ∧ com' ≤ 6 * i') : Play W wr' hb c Fc lim q n i' S' yes yv com' ab' L := by
  have hsz := lt_of_block h.heard
  have hb0 := h.hbW
  exact ⟨hh, row_kept h.yesr hc (fun g hg e => by have := (h.yesr.lt g hg).1; omega), Nat.le_trans h.ylen hi, h.all.kept hc (fun b hf e => (h.foot b hf).2.1 e), hcom, hc.at h.ncell (by omega), hc.at h.res (by omega), h.foot, h.hbW, h.chg.new hc (fun b e => by omega)⟩

/-- One more is heard to say yes. -/
theorem Play.says {W wr wr' : World} {hb c : Nat} {Fc : Nat → Prop} {lim : Int} {q n i : Nat} {S : Bool} {yes yes' : List Int} {yv yv' : Value} {com ab : Int} {L : List (Int × Ent)} (h : Play W wr hb c Fc lim q n i S yes yv com ab L) (hc : Chg (fun b => b = hb ∨ some b = yv.ownBlock) wr wr') (hh : wr'.heap[hb]? = some (.cells (heardC S yv' com ab 0) 47 (0, 0)))
    (ho : wr'.ownsRow (hb + 1) 3 1 yv' yes'.length (yes'.map (Value.int .i64))) (hl : yes.length + 1 = yes'.length) (hn : ∀ b, yv'.ownBlock = some b → yv.ownBlock = some b ∨ wr.heap.size ≤ b) : Play W wr' hb c Fc lim q n (i + 1) S yes' yv' com ab L := by
  have hsz := lt_of_block h.heard
  have hb0 := h.hbW
  have hown : ∀ b, yv.ownBlock = some b → hb < b := fun b hb1 => (h.yesr.lt b hb1).1
  refine ⟨hh, ho, by have := h.ylen; omega, h.all.kept hc (fun b hf e => ?_), ⟨h.com0.1, by have := h.com0.2; omega⟩, hc.at h.ncell (fun e => ?_), hc.at h.res (fun e => ?_), fun b hf => ⟨(h.foot b hf).1, (h.foot b hf).2.1, fun e => ?_⟩, h.hbW, h.chg.new hc (fun b e => ?_)⟩
  · rcases e with e | e
    · exact (h.foot b hf).2.1 e
    · exact (h.foot b hf).2.2 e.symm
  · rcases e with e | e
    · omega
    · have := hown _ e.symm; omega
  · rcases e with e | e
    · omega
    · have := hown _ e.symm; omega
  · rcases hn b e with h1 | h1
    · exact (h.foot b hf).2.2 h1
    · have := h.all.foot b hf; omega
  · rcases e with e | e
    · omega
    · have := hown _ e.symm; omega

def PlayEnd (W w' : World) (c : Nat) (lim : Int) (n : Nat) (e : Ending) : Prop :=
  ∃ S yes oy ny cy com ab Fc q L, e = .returned (.tuple #[.agg (heardC S (.slice oy ny cy) com ab 0), ptrV c, .bool true]) ∧ AllIs w' c Fc lim q L ∧ PSt n S yes ab L ∧ Chg (fun _ => False) W w'

structure HeardTo (w : World) (b : Nat) (l : Array Value) : Prop where
  there : w.there b 0 l.size
  size : (Try.prog.info? 47).map (·.size) = some l.size
  one : l.all (·.oneCell') = true
  chg : Chg (· = b) w (w.setCells b 0 l.toList)
  load : (loadVar 47 ⟨b, 0, none⟩).run Try.prog (w.setCells b 0 l.toList) = .ok (.agg l) (w.setCells b 0 l.toList)

theorem heard_to {b : Nat} {l0 : List Value} (h : Arr w b 47 l0) (h6 : l0.length = 6) (S : Bool) (oy : Option Addr) (ny cy : Nat) (com ab ea : Int) : HeardTo w b (heardC S (.slice oy ny cy) com ab ea) :=
  ⟨by have := h.there; rw [h6] at this; exact this, size_heard, all_oneCell_toArray (cs := [.bool S, .bool false, .slice oy ny cy, .int .i64 com, .int .i64 ab, .int .i64 ea]) (by intro v hv; simp only [List.mem_cons, List.not_mem_nil, or_false] at hv; rcases hv with rfl | rfl | rfl | rfl | rfl | rfl <;> rfl), chg_setCells b _ 0 w,
    run_loadVar_mid (P := Try.prog) _ b 0 47 (heardC S (.slice oy ny cy) com ab ea).toList _ (h.all (vs := (heardC S (.slice oy ny cy) com ab ea).toList) (by rw [h6]; rfl)).range Try.underlying47 rfl size_heard⟩





theorem take_lg (L : List (Int × Ent)) (kd f t tx : Int) (y : Bool) (k : Nat) : (takeF L kd f t tx y k).lg ≠ 0 → kd = 2 ∧ y = true ∧ t = 0 := by
  unfold takeF
  by_cases hu : Up kd f t tx y k
  · rw [if_pos hu]
    have ht := hu.to'
    unfold lookF
    split
    · unfold unkF; split <;> exact fun h => absurd rfl h
    · split
      · unfold knownF
        split
        · split
          · split <;> exact fun h => absurd rfl h
          · exact fun h => absurd rfl h
        · split
          · rename_i h2
            split
            · rename_i h3
              exact fun _ => ⟨h2.1, h3, ht⟩
            · exact fun h => absurd rfl h
          · split <;> exact fun h => absurd rfl h
      · unfold unkF; split <;> exact fun h => absurd rfl h
  · rw [if_neg hu]; exact fun h => absurd rfl h






set_option maxHeartbeats 8000000 in
theorem plays_any (W : World) (lim n : Nat) (hlim : 1 ≤ lim ∧ lim ≤ 1000) (hn : 1 ≤ n ∧ n ≤ 6) (oaA : Option Addr) (capA : Nat) (acts : List (List Value)) (hacts : RowsAt W 9 oaA acts) (hok : ∀ a ∈ acts, ActOk W a) (hcap : acts.length ≤ capA ∧ capA ≤ maxLen) :
    Calls Try.prog 19 #[.int .i64 lim, .int .i64 n, .slice oaA acts.length capA] W fun e w' => ∃ c, PlayEnd W w' c lim n e := by
  have hmf : ∀ (fn : Fn) (first cap : Array Value) (w : World), (Instr.makeFunc fn first cap).run Try.prog w = .ok (.func fn first cap) w := fun _ _ _ _ => rfl
  obtain ⟨i0, hI0⟩ := info_parts info_plan
  have HI0 := Lib.hid hI0
  have HLim := Lib.hid hlim
  have HN := Lib.hid hn
  have HActs := Lib.hid hacts
  have HOk := Lib.hid hok
  have HCap := Lib.hid hcap
  clear hI0 hlim hn hacts hok hcap
  go_enter Try.func19, Try.ntmps19
  go_wp2_with fail
  obtain ⟨w0, hw0⟩ : ∃ w0, (W.alloc (.cells #[.int .i64 n] 3)).alloc (.cells #[.bool false, .bool false, .slice none 0 0, .int .i64 0, .int .i64 0, .int .i64 0] 47) = w0 := ⟨_, rfl⟩
  rw [hw0]
  have hn0 : w0.heap[W.heap.size]? = some (.cells #[.int .i64 n] 3 (0, 0)) := by
    subst hw0; simp only [heap_alloc_get, World.size_alloc]; rw [if_neg (by omega), if_pos trivial]
  have hr0 : Arr w0 (W.heap.size + 1) 47 [.bool false, .bool false, .slice none 0 0, .int .i64 0, .int .i64 0, .int .i64 0] := by
    subst hw0; unfold Arr; simp only [heap_alloc_get, World.size_alloc]; rw [if_pos trivial]
  have hc0 : Chg (fun _ => False) W w0 := by subst hw0; exact ((Chg.refl _ _).alloc _).alloc _
  have hs0 : w0.heap.size = W.heap.size + 2 := by subst hw0; simp only [World.size_alloc]
  have HN0 := Lib.hid hn0
  have HR0 := Lib.hid hr0
  have HC0 := Lib.hid hc0
  have HS0 := Lib.hid hs0
  clear hn0 hr0 hc0 hw0 hs0
  go_wp2_with (go_at_call 10; refine (new_any _ lim (by have := HLim.out; omega) (by have := HLim.out; omega)).mono ?_; rintro e w1 ⟨c, rfl, ⟨q, hC⟩, hc1⟩
               have HCo1 := Lib.hid hC
               have HC1 := Lib.hid hc1
               unfold ptrV
               clear hC hc1)
  go_loopw [10, 11] (fun u j wr => ∃ k : Nat, j = .int .i64 ((k : Int) + 1) ∧ k ≤ n ∧ wr.ownsRow w1.heap.size 33 2 u k ((upto k).map planC).flatten ∧ Chg (fun _ => False) w1 wr) (fun _ j _ => n + 1 - (intOf j).toNat)
  · exact ⟨0, rfl, Nat.zero_le _, World.ownsRow_nil _ _ _ _, Chg.refl _ _⟩
  obtain ⟨k, rfl, hk, ho, hc⟩ := hrel
  have HO := Lib.hid ho
  have HC := Lib.hid hc
  have nc : wr.cell? ⟨W.heap.size, 0, none⟩ = some (.int .i64 n) := cell_of_block (hc.at (HC1.out.at HN0.out id) id) rfl
  clear ho hc
  by_cases hlt : k < n
  · have hki : (k : Int) + 1 ≤ (n : Int) := by omega
    have hca := (Chg.refl (fun _ => False) wr).alloc (.cells #[.int .i64 ((k : Int) + 1), .slice none 0 0] 33)
    have HRow := Lib.hid (row_kept HO.out hca (fun _ _ h => h))
    have HCa := Lib.hid hca
    have hk1000 : k < 1000 := by have := HN.out.2; omega
    clear hca
    go_wp2_with (first
      | (at_builtin; refine wpList_append_own_at _ rfl _ _ 34 rfl w1.heap.size 33 i0 (.agg (coords.planC 0).toArray) 2 32 Try.underlying34 HI0.out.1 HI0.out.2.1 HI0.out.2.2.1 HI0.out.2.2.2 rfl (by decide) _ k _ rfl HRow.out ⟨wr.heap.size, 0, none⟩ 1 1 [.int .i64 ((k : Int) + 1), .slice none 0 0] rfl rfl (cells_new wr [.int .i64 ((k : Int) + 1), .slice none 0 0] _) (by intro x hx; simp only [List.mem_cons, List.not_mem_nil, or_false] at hx; rcases hx with rfl | rfl <;> rfl) (by unfold maxLen; omega) (by omega) (Nat.le_trans HC.out.size HCa.out.size) ?_; intro v6 w6 ho6 hg6 hx1 hx2; have HO6 := Lib.hid ho6; have HG6 := Lib.hid hg6; clear ho6 hg6 hx1 hx2))
    refine ⟨⟨k + 1, by go_num, hlt, ?_, (HC.out.trans' HCa.out).new (Chg.of_grown HG6.out) (fun j e => (HO.out.lt j e.symm).1)⟩, by simp [intOf]; omega⟩
    rw [upto_succ, List.map_append, List.flatten_append]
    simpa [planC] using HO6.out
  have hki : ¬ (k : Int) + 1 ≤ (n : Int) := by omega
  have hkl : k = n := by omega
  rw [hkl] at HO
  clear hkl hlt hk
  obtain ⟨oau, cu, rfl⟩ := own_slice HO.out
  have HRows := Lib.hid (rows_own HO.out (by intro r hr; obtain ⟨z, -, rfl⟩ := List.mem_map.1 hr; rfl) (by rw [List.length_map, upto_len]))
  have HGood := Lib.hid (good_upto HN.out.1 HN.out.2)
  obtain ⟨hb, hhb⟩ : ∃ hb, wr.heap.size = hb := ⟨_, rfl⟩
  have hca := (Chg.refl (fun _ => False) wr).alloc (.cells #[.bool false, .bool false, .slice none 0 0, .int .i64 0, .int .i64 0, .int .i64 0] 47)
  have hhd : (wr.alloc (.cells #[.bool false, .bool false, .slice none 0 0, .int .i64 0, .int .i64 0, .int .i64 0] 47)).heap[hb]? = some (.cells (heardC false (.slice none 0 0) 0 0 0) 47 (0, 0)) := by rw [← hhb]; exact block_alloc_new _ _
  have hsA : (wr.alloc (.cells #[.bool false, .bool false, .slice none 0 0, .int .i64 0, .int .i64 0, .int .i64 0] 47)).heap.size = hb + 1 := by rw [World.size_alloc, hhb]
  have hbg := begin_any (wr.alloc (.cells #[.bool false, .bool false, .slice none 0 0, .int .i64 0, .int .i64 0, .int .i64 0] 47)) ((HCo1.out.fresh HC.out).fresh hca) 1 (by decide) (upto n) HGood.out oau cu (HRows.out.kept hca (fun _ _ h => h)) rfl
  rw [upto_len] at hbg
  have HBg := Lib.hid hbg
  have HHd := Lib.hid hhd
  have HCa := Lib.hid hca
  have HSA := Lib.hid hsA
  have HHb := Lib.hid (show W.heap.size + 1 < hb from by have h1 := HS0.out; have h2 := HC1.out.size; have h3 := HC.out.size; have h4 := lt_of_block HCo1.out.head; omega)
  have HFc := Lib.hid (show (∀ b, born w0 w1 b → W.heap.size + 1 < b ∧ b < hb) from fun b hb' => by have h1 := HS0.out; have h2 := hb'.1; have h3 := hb'.2; have h4 := HC.out.size; omega)
  have HCw := Lib.hid ((HC0.out.trans' HC1.out).trans' HC.out)
  have HNr := Lib.hid ((HC1.out.trans' HC.out).at HN0.out id)
  have HRr := Lib.hid (show Arr wr (W.heap.size + 1) 47 _ from (HC1.out.trans' HC.out).at HR0.out id)
  clear hca hhd hbg hsA
  go_wp2_with (go_at_call 12; refine HBg.out.mono ?_; rintro e w2 ⟨v2, x1, rfl, ⟨oa2, cap2, rfl⟩, ⟨F1, pv1, qa1, hE, hF⟩, hC2, hc2⟩
               have HE1 := Lib.hid hE
               have HF1 := Lib.hid hF
               have HCo2 := Lib.hid hC2
               have HC2 := Lib.hid hc2
               clear hE hF hC2 hc2)
  have hplay : Play W w2 hb c (born w0 w1) lim q n 0 false [] (.slice none 0 0) 0 0 [(1, ⟨x1, F1, ⟨1, 0, upto n, List.replicate (upto n).length (.slice none 0 0), []⟩⟩)] := by
    have hE := EntIs.of_plain HE1.out
    have hlo : ∀ k, F1 k → hb < k := fun k hk => by have h1 := HF1.out k hk; have h2 := HSA.out; omega
    have hqb := HFc.out q HCo1.out.fq
    refine ⟨HC2.out.at HHd.out (by omega), World.ownsRow_nil _ _ _ _, Nat.le_refl _, ⟨HCo2.out, fun p hp => ?_, fun p hp k hk hfc => ?_, fun p hp p' hp' hne => ?_, by simp, fun p hp => ?_, fun p hp => ?_, by have := HLim.out; omega, by have := HLim.out; omega⟩, by omega, HC2.out.at (HCa.out.at HNr.out id) (by omega), HC2.out.at (HCa.out.at HRr.out id) (by omega), fun b hb' => ?_, HHb.out, (HCw.out.trans' HCa.out).new HC2.out (fun b e => by omega)⟩
    · rw [List.mem_singleton.1 hp]; exact ⟨pv1, qa1, hE⟩
    · rw [List.mem_singleton.1 hp] at hk
      have h1 := hlo k hk
      have h2 := (HFc.out k hfc).2
      omega
    · rw [List.mem_singleton.1 hp, List.mem_singleton.1 hp'] at hne
      exact absurd rfl hne
    · rw [List.mem_singleton.1 hp]; exact ⟨(by decide : (1 : Int) ≤ 1), (by decide : (1 : Int) ≤ 1099511627776)⟩
    · rw [List.mem_singleton.1 hp]; exact ⟨Or.inl rfl, by show (0 : Int) ≤ 0; omega, by show (0 : Int) < lim; have := HLim.out; omega⟩
    · rcases hb' with h | ⟨p, hp, h⟩
      · have := HFc.out b h
        exact ⟨this.1, by omega, fun e => by cases e⟩
      · rw [List.mem_singleton.1 hp] at h
        have h1 := hlo b h
        have h2 := HHb.out
        exact ⟨by omega, by omega, fun e => by cases e⟩
  have HPlay := Lib.hid hplay
  obtain ⟨Fc, hFc⟩ : ∃ Fc, born w0 w1 = Fc := ⟨_, rfl⟩
  rw [hFc] at HPlay
  clear hplay nc hki
  go_wp2_with fail
  clear HCo1 HC HO HRows HGood HBg HHd HCa HSA HHb HFc HCw HNr HRr HE1 HF1 HCo2 HC2 hFc HN0 HR0 HC0 HS0
  go_loopw [16] (fun j wr => ∃ (i : Nat) (S : Bool) (yes : List Int) (yv : Value) (com : Int) (e : Ent), j = .int .i64 i ∧ i ≤ acts.length ∧ i ≤ 60 ∧ Play W wr hb c Fc lim q n i S yes yv com 0 [(1, e)] ∧ Open1 n S yes e) (fun j _ => acts.length - (intOf j).toNat)
  · exact ⟨0, false, [], _, 0, _, rfl, Nat.zero_le _, Nat.zero_le _, HPlay.out, ⟨rfl, by simp, fun _ r hr => by simp [mget_nil] at hr⟩⟩
  clear HPlay
  obtain ⟨i, S, yes, yv, com, e, rfl, hi1, hi2, hP, hO⟩ := hrel
  have HP := Lib.hid hP
  have HO := Lib.hid hO
  clear hP hO
  by_cases hlt : i < acts.length ∧ i < 60
  · obtain ⟨hlt, hlt60⟩ := hlt
    have hia : (i : Int) < (acts.length : Int) := by omega
    have hi60 : (i : Int) < 60 := by omega
    have hicap : (i : Int) < (capA : Int) := by have := HCap.out.1; omega
    obtain ⟨r, hr⟩ : ∃ r, acts[i]? = some r := ⟨acts[i], List.getElem?_eq_getElem hlt⟩
    obtain ⟨k, tx, oap, capp, pl, kd, f, t, mt, y, oa, cap, ps, rfl, -, -, -, -, hM, -, -, hif, hit⟩ := (HOk.out r (List.mem_of_getElem? hr)).is
    have HM := Lib.hid hM
    obtain ⟨bA, offA, rfl⟩ := HActs.out.spot (by intro e0; rw [e0] at hlt; simp at hlt)
    have hcell := fun j v hj => HP.out.chg.cell (HActs.out.cell bA offA rfl i _ j v hr hj) id
    have d0 : wr.cell? ⟨bA, offA + i * 9, none⟩ = some (.int .i64 k) := hcell 0 _ rfl
    have d1 : wr.cell? ⟨bA, offA + i * 9 + 1, none⟩ = some (.int .i64 tx) := hcell 1 _ rfl
    have d2 : wr.cell? ⟨bA, offA + i * 9 + 2, none⟩ = some (.slice oap pl.length capp) := hcell 2 _ rfl
    have d3 : wr.cell? ⟨bA, offA + i * 9 + 3, none⟩ = some (.int .i64 kd) := hcell 3 _ rfl
    have d4 : wr.cell? ⟨bA, offA + i * 9 + 4, none⟩ = some (.int .i64 f) := hcell 4 _ rfl
    have d5 : wr.cell? ⟨bA, offA + i * 9 + 5, none⟩ = some (.int .i64 t) := hcell 5 _ rfl
    have d6 : wr.cell? ⟨bA, offA + i * 9 + 6, none⟩ = some (.int .i64 mt) := hcell 6 _ rfl
    have d7 : wr.cell? ⟨bA, offA + i * 9 + 7, none⟩ = some (.bool y) := hcell 7 _ rfl
    have d8 : wr.cell? ⟨bA, offA + i * 9 + 8, none⟩ = some (.slice oa ps.length cap) := hcell 8 _ rfl
    obtain ⟨oy, cy, rfl⟩ := own_slice HP.out.yesr
    have hca := (Chg.refl (fun _ => False) wr).alloc (.cells #[.int .i64 k, .int .i64 tx, .slice oap pl.length capp, .int .i64 kd, .int .i64 f, .int .i64 t, .int .i64 mt, .bool y, .slice oa ps.length cap] 61)
    have HPa := Lib.hid (HP.out.fresh hca)
    have HAct := Lib.hid (block_alloc_new wr (.cells #[.int .i64 k, .int .i64 tx, .slice oap pl.length capp, .int .i64 kd, .int .i64 f, .int .i64 t, .int .i64 mt, .bool y, .slice oa ps.length cap] 61))
    have HCa := Lib.hid hca
    have HHb := Lib.hid (show hb < wr.heap.size from lt_of_block HP.out.heard)
    have HCom := Lib.hid HP.out.com0
    have hst : e.E.state = 1 ∨ e.E.state = 2 ∨ e.E.state = 3 := (HP.out.all.ok (1, e) (by simp)).state
    have HSt := Lib.hid hst
    clear hr hM hcell hca hst hlt
    by_cases k2 : k = 2
    · subst k2
      have HSz0 := Lib.hid (show (wr.alloc (.cells #[.int .i64 2, .int .i64 tx, .slice oap pl.length capp, .int .i64 kd, .int .i64 f, .int .i64 t, .int .i64 mt, .bool y, .slice oa ps.length cap] 61)).heap.size = wr.heap.size + 1 from by rw [World.size_alloc])
      have HMa := Lib.hid ((HM.out.keptW (HP.out.chg.mono (fun _ _ h => h.elim))).keptW (HCa.out.mono (fun _ _ h => h.elim)))
      obtain ⟨ps', hps⟩ : ∃ ps', ps.take 3 = ps' := ⟨_, rfl⟩
      have HPs := Lib.hid hps
      have hm3 := HMa.out.few
      rw [hps] at hm3
      have HM3 := Lib.hid hm3
      clear hps hm3
      go_wp2_with (first
        | (go_at_call 11; refine (short_any _ kd f t mt y oa cap ps HMa.out).mono ?_; rw [HPs.out]; rintro e0 w2 ⟨rfl, hc2⟩
           have HC2 := Lib.hid hc2
           clear hc2)
        | (go_at_call 13; fail))
      have hcm := (Chg.refl (fun _ => False) w2).alloc (.cells #[.int .i64 kd, .int .i64 f, .int .i64 t, .int .i64 1, .bool y, .slice oa ps'.length cap] 24)
      have hPm := (HPa.out.fresh HC2.out).fresh hcm
      have hbm := block_alloc_new w2 (.cells #[.int .i64 kd, .int .i64 f, .int .i64 t, .int .i64 1, .bool y, .slice oa ps'.length cap] 24)
      refine (take_all _ hPm.all kd f t 1 y oa cap ps' ((HM3.out.kept HC2.out).kept hcm)).mono ?_
      have hstep := fun yes' (h1 : ∀ r ∈ yes, r ∈ yes') h2 => take_step (yes' := yes') HO.out HN.out.2 kd f t y ps'.length h1 h2 HSt.out
      have hlg2 : (takeF [(1, e)] kd f t 1 y ps'.length).lg ≠ 0 → kd = 2 ∧ y = true ∧ t = 0 := take_lg _ _ _ _ _ _ _
      have hfoot := fun b => foot_take (Fc := Fc) (L := [(1, e)]) kd f t 1 y ps'.length b
      obtain ⟨tk, htk⟩ : ∃ tk, takeF [(1, e)] kd f t 1 y ps'.length = tk := ⟨_, rfl⟩
      rw [htk] at hlg2
      rw [htk] at hfoot
      rw [htk] at hstep
      rw [htk]
      clear htk
      obtain ⟨ms0, lg, cl, gn, L'⟩ := tk
      dsimp only at hstep hlg2 hfoot ⊢
      rintro e0 w3 ⟨v3, rfl, hs3, ha3, hc3⟩
      obtain ⟨ov, cv, T0, rfl, hr3, hT1, hT2, hT3⟩ := hs3.is
      have hp3 := hPm.call hc3 ha3 (fun b hf => Or.inl (hfoot b hf))
      have hm3 := hc3.at hbm (fun hf => by have h1 := (hPm.all.foot _ hf); have h2 := HP.out.all.foot _ hf; have h3 := HC2.out.size; have h4 := HSz0.out; omega)
      have ha4 := (Chg.refl (fun _ => False) w3).alloc (.cells #[.slice ov T0.length cv, .int .i64 lg, .int .i64 cl, .int .i64 gn] 36)
      obtain ⟨T, hT⟩ : ∃ T : List M3, T = T0.map (fun t => ((t.1.1, t.1.2, (1 : Int)), t.2)) := ⟨_, rfl⟩
      have hTl : T0.length = T.length := by rw [hT, List.length_map]
      have HRows3 := Lib.hid (show RowsAt w3 6 ov (T.map msgR) from by rw [hT, List.map_map]; exact hr3)
      obtain ⟨ms, hms⟩ : ∃ ms, at1 1 ms0 = ms := ⟨_, rfl⟩
      have HT2 := Lib.hid (show T.map (·.1) = ms ∧ Slices (T.map (·.2)) from by
        rw [← hms, hT, List.map_map, List.map_map]
        exact ⟨by unfold at1; rw [← hT1, List.map_map]; rfl, hT2⟩)
      simp only [hms] at hstep
      have HIn := Lib.hid (show InF (fun b => ∃ cs fr, w3.heap[b]? = some (.cells cs 24 fr)) ov T.length from by rw [← hTl]; exact hT3)
      rw [hTl] at ha4 ⊢
      have HP3a := Lib.hid (hp3.fresh ha4)
      have HSd := Lib.hid (block_alloc_new w3 (.cells #[.slice ov T.length cv, .int .i64 lg, .int .i64 cl, .int .i64 gn] 36))
      have HRowsA := Lib.hid (HRows3.out.kept ha4 (fun _ _ h => h))
      have HNb3 := Lib.hid (show ∀ b off, ov = some ⟨b, off, none⟩ → T ≠ [] → b ≠ hb from fun b off ho hT e1 => by
        obtain ⟨cs, fr, h1⟩ := HIn.out (fun h => hT (List.eq_nil_of_length_eq_zero h)) b off ho
        rw [e1, hp3.heard] at h1
        simp only [Option.some.injEq, Obj.cells.injEq] at h1
        exact absurd h1.2.1 (by decide))
      have HSdA := HSd
      have hm4 := ha4.at hm3 id
      have m0 : (w3.alloc (.cells #[.slice ov T.length cv, .int .i64 lg, .int .i64 cl, .int .i64 gn] 36)).cell? ⟨w2.heap.size, 0, none⟩ = some (.int .i64 kd) := cell_of_block hm4 rfl
      have m1 : (w3.alloc (.cells #[.slice ov T.length cv, .int .i64 lg, .int .i64 cl, .int .i64 gn] 36)).cell? ⟨w2.heap.size, 1, none⟩ = some (.int .i64 f) := cell_of_block hm4 rfl
      have m2 : (w3.alloc (.cells #[.slice ov T.length cv, .int .i64 lg, .int .i64 cl, .int .i64 gn] 36)).cell? ⟨w2.heap.size, 2, none⟩ = some (.int .i64 t) := cell_of_block hm4 rfl
      have m4 : (w3.alloc (.cells #[.slice ov T.length cv, .int .i64 lg, .int .i64 cl, .int .i64 gn] 36)).cell? ⟨w2.heap.size, 4, none⟩ = some (.bool y) := cell_of_block hm4 rfl
      have y2 : (w3.alloc (.cells #[.slice ov T.length cv, .int .i64 lg, .int .i64 cl, .int .i64 gn] 36)).cell? ⟨hb, 2, none⟩ = some (.slice oy yes.length cy) := cell_of_block HP3a.out.heard rfl
      have sd0 : (w3.alloc (.cells #[.slice ov T.length cv, .int .i64 lg, .int .i64 cl, .int .i64 gn] 36)).cell? ⟨w3.heap.size, 0, none⟩ = some (.slice ov T.length cv) := cell_of_block HSd.out rfl
      have sd1 : (w3.alloc (.cells #[.slice ov T.length cv, .int .i64 lg, .int .i64 cl, .int .i64 gn] 36)).cell? ⟨w3.heap.size, 1, none⟩ = some (.int .i64 lg) := cell_of_block HSd.out rfl
      have HStep := Lib.hid hstep
      have HLg2 := Lib.hid hlg2
      have HCa4 := Lib.hid ha4
      clear hcm hPm hbm hstep hlg2 hfoot hs3 ha3 hc3 hr3 hT1 hT2 hT3 hp3 hm3 ha4 hTl hm4 hT hms
      by_cases hA : kd = 2 ∧ y = true ∧ t = 0
      · obtain ⟨rfl, rfl, rfl⟩ := hA
        by_cases hin : f ∈ yes
        · have hst := HStep.out yes (fun _ h => h) (fun _ _ _ => hin)
          have HSt1 := Lib.hid hst.1
          have HAll := Lib.hid hst.2
          clear hst
          by_cases hl : lg = 0
          · subst hl
            go_wp2_with (first
              | (go_at_call 23; refine (in_any _ HP3a.out.yesr (by have := HP3a.out.ylen; omega) f).mono ?_; rw [decide_eq_true hin]; rintro e0 w5 ⟨rfl, rfl⟩)
              | (go_at_call 42; fail))
            obtain ⟨w9, hw9⟩ : ∃ w9, (w3.alloc (.cells #[.slice ov T.length cv, .int .i64 0, .int .i64 cl, .int .i64 gn] 36)) = w9 := ⟨_, rfl⟩
            have hpx := HP3a.out
            have hrx := HRowsA.out
            rw [hw9] at hpx
            rw [hw9] at hrx
            rw [hw9]
            have HP3 := Lib.hid hpx
            have HRows := Lib.hid hrx
            have HNb := Lib.hid HNb3.out
            have HStep := HSt1
            clear hw9 hpx hrx m0 m1 m2 m4 y2 sd0 sd1
            obtain ⟨w3, hw3⟩ : ∃ w3, w3 = w9 := ⟨_, rfl⟩
            subst hw3
            obtain ⟨com', hcom'⟩ : ∃ com', com + cC ms = com' := ⟨_, rfl⟩
            obtain ⟨ab', hab'⟩ : ∃ ab', 0 + cA n ms = ab' := ⟨_, rfl⟩
            have hea : (0 : Int) + (if S = true then 0 else cC ms) = 0 := by
              by_cases hS : S = true
              · rw [if_pos hS]; rfl
              · rw [if_neg hS, HStep.out.early (Bool.eq_false_iff.2 hS)]; rfl
            have hlc : 0 ≤ com' ∧ com' ≤ 6 * ((i + 1 : Nat) : Int) := by
              have h1 := cC_le ms
              have h2 := HStep.out.len
              have h3 := HCom.out
              omega
            have hTl : T.length ≤ 10000 := by
              have h1 := congrArg List.length HT2.out.1
              rw [List.length_map] at h1
              have h2 := HStep.out.len
              omega
            have hlis := listen_any w3 hb W.heap.size n S (.slice oy yes.length cy) com 0 0 T ov cv HP3.out.heard (cell_of_block HP3.out.ncell rfl) (by have := HP3.out.hbW; omega) HRows.out HT2.out.2 HNb.out hTl (by have := HCom.out; omega) (by omega) (by omega)
            rw [HT2.out.1, hcom', hab', hea] at hlis
            have HLis := Lib.hid hlis
            have HAb := Lib.hid hab'
            have HLc := Lib.hid hlc
            clear hlis hcom' hea hlc hTl hab'
            rcases HStep.out.next with ⟨e', hL, hO', hcA⟩ | ⟨hL, hgone⟩
            · have HOpn := Lib.hid (And.intro hL (And.intro hO' hcA))
              have hok' : e'.E.state = 1 ∨ e'.E.state = 2 ∨ e'.E.state = 3 := (HP3.out.all.ok (1, e') (by rw [hL]; simp)).state
              have hs0 : (e'.E.state == 0) = false := by simp; omega
              clear hL hO' hcA hok'
              go_wp2_with (first
                | (go_at_call 42; refine HLis.out.mono ?_; rintro e0 w4 ⟨rfl, hh4, hc4⟩
                   have HP4 := Lib.hid (HP3.out.hears hc4 hh4 (Nat.le_succ i) HLc.out)
                   clear hh4 hc4)
                | (go_at_call 15; refine (state_all _ HP4.out.all 1 (by unfold inR; omega)).mono ?_; rw [HOpn.out.1, show ((mget [((1 : Int), e')] 1).map (·.E.state)).getD 0 = e'.E.state from rfl]; rintro e0 w5 ⟨rfl, rfl⟩))
              have hab0 : ab' = 0 := by have h1 := HAb.out; have h2 := HOpn.out.2.2; omega
              have hP4 := HP4.out
              rw [HOpn.out.1, hab0] at hP4
              exact ⟨⟨i + 1, S, yes, _, com', e', by go_num, by omega, by omega, hP4, HOpn.out.2.1⟩, meas_step (by omega)⟩
            · have HGn := Lib.hid (And.intro hL hgone)
              clear hL hgone
              go_wp2_with (first
                | (go_at_call 42; refine HLis.out.mono ?_; rintro e0 w4 ⟨rfl, hh4, hc4⟩
                   have HP4 := Lib.hid (HP3.out.hears hc4 hh4 (Nat.le_succ i) HLc.out)
                   have HHd := Lib.hid hh4
                   have h0 : w4.cell? ⟨hb, 0, none⟩ = some (.bool S) := cell_of_block HHd.out rfl
                   have h1 : w4.cell? ⟨hb, 1, none⟩ = some (.bool false) := cell_of_block HHd.out rfl
                   have h2 : w4.cell? ⟨hb, 2, none⟩ = some (.slice oy yes.length cy) := cell_of_block HHd.out rfl
                   have h3 : w4.cell? ⟨hb, 3, none⟩ = some (.int .i64 (com')) := cell_of_block HHd.out rfl
                   have h4 : w4.cell? ⟨hb, 4, none⟩ = some (.int .i64 (ab')) := cell_of_block HHd.out rfl
                   have h5 : w4.cell? ⟨hb, 5, none⟩ = some (.int .i64 0) := cell_of_block HHd.out rfl
                   have HRt := Lib.hid (heard_to HP4.out.res rfl S oy yes.length cy com' ab' 0)
                   clear hh4 hc4)
                | (go_at_call 15; refine (state_all _ HP4.out.all 1 (by unfold inR; omega)).mono ?_; rw [HGn.out.1, show ((mget ([] : List (Int × Ent)) 1).map (·.E.state)).getD 0 = 0 from rfl]; rintro e0 w5 ⟨rfl, rfl⟩)
                | (refine wpList_store_mid rfl 47 _ _ rfl (W.heap.size + 1) 0 (heardC S (.slice oy yes.length cy) com' ab' 0) rfl rfl HRt.out.there HRt.out.size HRt.out.one ?_))
              (try simp only [Exit.inBlock, Exit.then])
              refine bodyPost_ret (results3 rfl _ rfl HRt.out.load) rfl ?_
              have hpst : PSt n S yes ab' L' := by
                rw [HGn.out.1]
                exact PSt.gone (fun hS => by have h1 := HAb.out; have h2 := HGn.out.2 (by first | exact hS | trivial); omega)
              exact ⟨c, S, yes, _, _, _, com', ab', Fc, q, L', rfl, HP4.out.all.kept HRt.out.chg (fun b hf e1 => by have := (HP4.out.foot b hf).1; omega), hpst, HP4.out.chg.new HRt.out.chg (fun b e1 => by omega)⟩
          · have hlb : (lg == 0) = false := by simp [hl]
            have hlb2 : (lg != 0) = true := by simp [hl]
            have HAll2 := Lib.hid (HAll.out hl)
            clear hl
            go_wp2_with (first
              | (go_at_call 23; refine (in_any _ HP3a.out.yesr (by have := HP3a.out.ylen; omega) f).mono ?_; rw [decide_eq_true hin]; rintro e0 w5 ⟨rfl, rfl⟩)
              | fail)
            have nc : (w3.alloc (.cells #[.slice ov T.length cv, .int .i64 lg, .int .i64 cl, .int .i64 gn] 36)).cell? ⟨W.heap.size, 0, none⟩ = some (.int .i64 n) := cell_of_block HP3a.out.ncell rfl
            obtain ⟨w9, hw9⟩ : ∃ w9, (w3.alloc (.cells #[.slice ov T.length cv, .int .i64 lg, .int .i64 cl, .int .i64 gn] 36)) = w9 := ⟨_, rfl⟩
            have hpx := HP3a.out
            have hrx := HRowsA.out
            have hsx := HSdA.out
            rw [hw9] at hpx
            rw [hw9] at hrx
            rw [hw9] at hsx
            rw [hw9]
            have HP9 := Lib.hid hpx
            have HRows9 := Lib.hid hrx
            have HSd9 := Lib.hid hsx
            clear hw9 hpx hrx hsx m0 m1 m2 m4 y2 sd0 sd1 nc
            go_loopw [20] (fun j wx => ∃ r : Nat, j = .int .i64 ((r : Int) + 1) ∧ r ≤ n ∧ Chg (fun _ => False) w9 wx) (fun j _ => n + 1 - (intOf j).toNat)
            · exact ⟨0, rfl, Nat.zero_le _, Chg.refl _ _⟩
            obtain ⟨rr, rfl, hrr, hcx⟩ := hrel
            have HCx := Lib.hid hcx
            clear hcx
            have HPx := Lib.hid (HP9.out.fresh HCx.out)
            have nc : wr.cell? ⟨W.heap.size, 0, none⟩ = some (.int .i64 n) := cell_of_block HPx.out.ncell rfl
            have y2 : wr.cell? ⟨hb, 2, none⟩ = some (.slice oy yes.length cy) := cell_of_block HPx.out.heard rfl
            by_cases hrl : rr < n
            · have hri : (rr : Int) + 1 ≤ (n : Int) := by omega
              have hmem : ((rr : Int) + 1) ∈ yes := HAll2.out _ (upto_le.2 ⟨by omega, by omega⟩)
              have HMem := Lib.hid hmem
              have hr1000 : rr < 1000 := by have := HN.out.2; omega
              clear hmem
              go_wp2_with (go_at_call 23; refine (in_any _ HPx.out.yesr (by have := HPx.out.ylen; omega) _).mono ?_; rw [decide_eq_true HMem.out]; rintro e0 w5 ⟨rfl, rfl⟩)
              exact ⟨⟨rr + 1, by go_num, hrl, HCx.out⟩, by simp [intOf]; omega⟩
            · have hri : ¬ (rr : Int) + 1 ≤ (n : Int) := by omega
              have sd0 : wr.cell? ⟨w3.heap.size, 0, none⟩ = some (.slice ov T.length cv) := cell_of_block (HCx.out.at HSd9.out id) rfl
              go_wp2_with (first
                | (go_at_call 42; fail))
              have HP3 := HPx
              have HRows := Lib.hid (HRows9.out.kept HCx.out (fun _ _ h => h))
              have HNb := Lib.hid HNb3.out
              have HStep := HSt1
              clear nc y2 sd0
              obtain ⟨w3, hw3⟩ : ∃ w3, w3 = wr := ⟨_, rfl⟩
              subst hw3
              obtain ⟨com', hcom'⟩ : ∃ com', com + cC ms = com' := ⟨_, rfl⟩
              obtain ⟨ab', hab'⟩ : ∃ ab', 0 + cA n ms = ab' := ⟨_, rfl⟩
              have hea : (0 : Int) + (if S = true then 0 else cC ms) = 0 := by
                by_cases hS : S = true
                · rw [if_pos hS]; rfl
                · rw [if_neg hS, HStep.out.early (Bool.eq_false_iff.2 hS)]; rfl
              have hlc : 0 ≤ com' ∧ com' ≤ 6 * ((i + 1 : Nat) : Int) := by
                have h1 := cC_le ms
                have h2 := HStep.out.len
                have h3 := HCom.out
                omega
              have hTl : T.length ≤ 10000 := by
                have h1 := congrArg List.length HT2.out.1
                rw [List.length_map] at h1
                have h2 := HStep.out.len
                omega
              have hlis := listen_any w3 hb W.heap.size n S (.slice oy yes.length cy) com 0 0 T ov cv HP3.out.heard (cell_of_block HP3.out.ncell rfl) (by have := HP3.out.hbW; omega) HRows.out HT2.out.2 HNb.out hTl (by have := HCom.out; omega) (by omega) (by omega)
              rw [HT2.out.1, hcom', hab', hea] at hlis
              have HLis := Lib.hid hlis
              have HAb := Lib.hid hab'
              have HLc := Lib.hid hlc
              clear hlis hcom' hea hlc hTl hab'
              rcases HStep.out.next with ⟨e', hL, hO', hcA⟩ | ⟨hL, hgone⟩
              · have HOpn := Lib.hid (And.intro hL (And.intro hO' hcA))
                have hok' : e'.E.state = 1 ∨ e'.E.state = 2 ∨ e'.E.state = 3 := (HP3.out.all.ok (1, e') (by rw [hL]; simp)).state
                have hs0 : (e'.E.state == 0) = false := by simp; omega
                clear hL hO' hcA hok'
                go_wp2_with (first
                  | (go_at_call 42; refine HLis.out.mono ?_; rintro e0 w4 ⟨rfl, hh4, hc4⟩
                     have HP4 := Lib.hid (HP3.out.hears hc4 hh4 (Nat.le_succ i) HLc.out)
                     clear hh4 hc4)
                  | (go_at_call 15; refine (state_all _ HP4.out.all 1 (by unfold inR; omega)).mono ?_; rw [HOpn.out.1, show ((mget [((1 : Int), e')] 1).map (·.E.state)).getD 0 = e'.E.state from rfl]; rintro e0 w5 ⟨rfl, rfl⟩))
                have hab0 : ab' = 0 := by have h1 := HAb.out; have h2 := HOpn.out.2.2; omega
                have hP4 := HP4.out
                rw [HOpn.out.1, hab0] at hP4
                exact ⟨⟨i + 1, S, yes, _, com', e', by go_num, by omega, by omega, hP4, HOpn.out.2.1⟩, meas_step (by omega)⟩
              · have HGn := Lib.hid (And.intro hL hgone)
                clear hL hgone
                go_wp2_with (first
                  | (go_at_call 42; refine HLis.out.mono ?_; rintro e0 w4 ⟨rfl, hh4, hc4⟩
                     have HP4 := Lib.hid (HP3.out.hears hc4 hh4 (Nat.le_succ i) HLc.out)
                     have HHd := Lib.hid hh4
                     have h0 : w4.cell? ⟨hb, 0, none⟩ = some (.bool S) := cell_of_block HHd.out rfl
                     have h1 : w4.cell? ⟨hb, 1, none⟩ = some (.bool false) := cell_of_block HHd.out rfl
                     have h2 : w4.cell? ⟨hb, 2, none⟩ = some (.slice oy yes.length cy) := cell_of_block HHd.out rfl
                     have h3 : w4.cell? ⟨hb, 3, none⟩ = some (.int .i64 (com')) := cell_of_block HHd.out rfl
                     have h4 : w4.cell? ⟨hb, 4, none⟩ = some (.int .i64 (ab')) := cell_of_block HHd.out rfl
                     have h5 : w4.cell? ⟨hb, 5, none⟩ = some (.int .i64 0) := cell_of_block HHd.out rfl
                     have HRt := Lib.hid (heard_to HP4.out.res rfl S oy yes.length cy com' ab' 0)
                     clear hh4 hc4)
                  | (go_at_call 15; refine (state_all _ HP4.out.all 1 (by unfold inR; omega)).mono ?_; rw [HGn.out.1, show ((mget ([] : List (Int × Ent)) 1).map (·.E.state)).getD 0 = 0 from rfl]; rintro e0 w5 ⟨rfl, rfl⟩)
                  | (refine wpList_store_mid rfl 47 _ _ rfl (W.heap.size + 1) 0 (heardC S (.slice oy yes.length cy) com' ab' 0) rfl rfl HRt.out.there HRt.out.size HRt.out.one ?_))
                (try simp only [Exit.inBlock, Exit.then])
                refine bodyPost_ret (results3 rfl _ rfl HRt.out.load) rfl ?_
                have hpst : PSt n S yes ab' L' := by
                  rw [HGn.out.1]
                  exact PSt.gone (fun hS => by have h1 := HAb.out; have h2 := HGn.out.2 (by first | exact hS | trivial); omega)
                exact ⟨c, S, yes, _, _, _, com', ab', Fc, q, L', rfl, HP4.out.all.kept HRt.out.chg (fun b hf e1 => by have := (HP4.out.foot b hf).1; omega), hpst, HP4.out.chg.new HRt.out.chg (fun b e1 => by omega)⟩
        · obtain ⟨yes', hyes⟩ : ∃ yes', yes ++ [f] = yes' := ⟨_, rfl⟩
          have hyl : yes.length + 1 = yes'.length := by rw [← hyes]; simp
          have hym : yes.map (Value.int .i64) ++ [.int .i64 f] = yes'.map (Value.int .i64) := by rw [← hyes]; simp
          have hst := HStep.out yes' (fun r h => by rw [← hyes]; simp [h]) (fun _ _ _ => by rw [← hyes]; simp)
          have HSt1 := Lib.hid hst.1
          have HAll := Lib.hid hst.2
          have HYl := Lib.hid hyl
          have HYm := Lib.hid hym
          have HYs := Lib.hid hyes
          obtain ⟨i1, hI1⟩ := info_parts info_int
          have HI1 := Lib.hid hI1
          have hHd := HP3a.out.heard
          have HHd3 := Lib.hid hHd
          have HYR := Lib.hid HP3a.out.yesr
          have HY60 := Lib.hid (show yes.length ≤ 60 from Nat.le_trans HP3a.out.ylen hi2)
          clear hst hyl hym hyes hI1 hHd
          by_cases hl : lg = 0
          · subst hl
            go_wp2_with (first
              | (go_at_call 23; refine (in_any _ HP3a.out.yesr (by have := HP3a.out.ylen; omega) f).mono ?_; rw [decide_eq_false hin]; rintro e0 w5 ⟨rfl, rfl⟩)
              | (at_builtin; refine wpList_append_own_at _ rfl _ _ 41 rfl (hb + 1) 3 i1 (.int .i64 0) 1 8 Try.underlying41 HI1.out.1 HI1.out.2.1 HI1.out.2.2.1 HI1.out.2.2.2 rfl (by decide) _ yes.length (yes.map (Value.int .i64)) rfl (row_kept HYR.out ((Chg.refl (fun _ => False) _).alloc _) (fun _ _ h => h)) ⟨w3.heap.size + 1, 0, none⟩ 1 1 [.int .i64 f] rfl rfl (by have h := cells_new (w3.alloc (.cells #[.slice ov T.length cv, .int .i64 0, .int .i64 cl, .int .i64 gn] 36)) [.int .i64 f] 3; rw [World.size_alloc] at h; exact h) (by intro x hx; rw [List.mem_singleton.1 hx]; rfl) (by have := HY60.out; unfold maxLen; omega) (by have := HY60.out; omega) (by have h1 := lt_of_block HHd3.out; rw [World.size_alloc]; omega) ?_; intro v6 w6 ho6 hg6 hx1 hx2
                 rw [HYm.out, HYl.out] at ho6
                 obtain ⟨oz, cz, rfl⟩ := own_slice ho6
                 have hca5 := (Chg.refl (fun _ => False) (w3.alloc (.cells #[.slice ov T.length cv, .int .i64 0, .int .i64 cl, .int .i64 gn] 36))).alloc (.cells #[.int .i64 f] 3)
                 have hc6 : Chg (fun b => some b = (Value.slice oy yes.length cy).ownBlock) (w3.alloc (.cells #[.slice ov T.length cv, .int .i64 0, .int .i64 cl, .int .i64 gn] 36)) w6 := (hca5.mono (fun _ _ h => h.elim)).trans' (Chg.of_grown hg6)
                 have hown : ∀ b, (Value.slice oy yes.length cy).ownBlock = some b → hb < b := fun b hb1 => (HYR.out.lt b hb1).1
                 have hh6 := hc6.at HHd3.out (fun e1 => by have := hown hb e1.symm; omega)
                 have q2 : w6.cell? ⟨hb, 2, none⟩ = some (.slice oy yes.length cy) := cell_of_block hh6 rfl
                 have z2 : w6.frozen? ⟨hb, 2, none⟩ = false := free_of_block hh6
                 have hcs : Chg (· = hb) w6 (w6.setCell ⟨hb, 2, none⟩ (.slice oz yes'.length cz)) := Chg.setCell (S := (· = hb)) (Chg.refl _ _) (fun _ => rfl) _
                 have hh7 : (w6.setCell ⟨hb, 2, none⟩ (.slice oz yes'.length cz)).heap[hb]? = some (.cells (heardC S (.slice oz yes'.length cz) com 0 0) 47 (0, 0)) := by rw [block_setCell hh6]; rfl
                 have hc7 : Chg (fun b => b = hb ∨ some b = (Value.slice oy yes.length cy).ownBlock) (w3.alloc (.cells #[.slice ov T.length cv, .int .i64 0, .int .i64 cl, .int .i64 gn] 36)) (w6.setCell ⟨hb, 2, none⟩ (.slice oz yes'.length cz)) := (hc6.mono (fun _ _ h => Or.inr h)).trans' (hcs.mono (fun _ _ h => Or.inl h))
                 have ho7 := row_kept ho6 hcs (fun b hb1 e1 => by have := (ho6.lt b hb1).1; omega)
                 have hm7 : ∀ b, (∃ cs fr, (w3.alloc (.cells #[.slice ov T.length cv, .int .i64 0, .int .i64 cl, .int .i64 gn] 36)).heap[b]? = some (.cells cs 24 fr) ∨ (w3.alloc (.cells #[.slice ov T.length cv, .int .i64 0, .int .i64 cl, .int .i64 gn] 36)).heap[b]? = some (.cells cs 36 fr)) → ¬ (b = hb ∨ some b = (Value.slice oy yes.length cy).ownBlock) := by
                   rintro b ⟨cs, fr, h1⟩ h2
                   rcases h2 with rfl | h2
                   · rw [HHd3.out] at h1
                     rcases h1 with h1 | h1 <;> (simp only [Option.some.injEq, Obj.cells.injEq] at h1; exact absurd h1.2.1 (by decide))
                   · obtain ⟨cur, h3⟩ := row_obj HYR.out h2.symm
                     rw [h3] at h1
                     rcases h1 with h1 | h1 <;> (simp only [Option.some.injEq, Obj.cells.injEq] at h1; exact absurd h1.2.1 (by decide))
                 have hsd7 := hc7.at HSd.out (hm7 _ ⟨_, _, Or.inr HSd.out⟩)
                 have r1 : (w6.setCell ⟨hb, 2, none⟩ (.slice oz yes'.length cz)).cell? ⟨w3.heap.size, 1, none⟩ = some (.int .i64 0) := cell_of_block hsd7 rfl
                 have r0 : (w6.setCell ⟨hb, 2, none⟩ (.slice oz yes'.length cz)).cell? ⟨w3.heap.size, 0, none⟩ = some (.slice ov T.length cv) := cell_of_block hsd7 rfl
                 have HP7 := Lib.hid (HP3a.out.says hc7 hh7 ho7 HYl.out (by
                   have hx3 : (Value.slice oz yes'.length cz).ownBlock = (Value.slice oy yes.length cy).ownBlock ∨ (Value.slice oz yes'.length cz).ownBlock = some (((w3.alloc (.cells #[.slice ov T.length cv, .int .i64 0, .int .i64 cl, .int .i64 gn] 36)).alloc (.cells #[.int .i64 f] 3)).heap.size) := hx2
                   rcases hx3 with h | h
                   · exact fun b hb1 => Or.inl (by rw [← h]; exact hb1)
                   · intro b hb1
                     rw [h] at hb1
                     have h2 : ((w3.alloc (.cells #[.slice ov T.length cv, .int .i64 0, .int .i64 cl, .int .i64 gn] 36)).alloc (.cells #[.int .i64 f] 3)).heap.size = b := Option.some.inj hb1
                     rw [World.size_alloc] at h2
                     exact Or.inr (by omega)))
                 have HRowsA7 := Lib.hid (rows_keptF HRowsA.out hc7 (F := fun b => ∃ cs fr, w3.heap[b]? = some (.cells cs 24 fr)) (by rw [List.length_map]; exact HIn.out) (fun b hb1 => by obtain ⟨cs, fr, h1⟩ := hb1; exact hm7 b ⟨cs, fr, Or.inl (HCa4.out.at h1 id)⟩))
                 have HSdA7 := Lib.hid hsd7
                 clear ho6 hg6 hx1 hx2 hca5 hc6 hown hh6 hcs hh7 hc7 ho7 hm7 hsd7)
              | (go_at_call 42; fail))
            clear HRowsA HSdA
            have HRowsA := HRowsA7
            have HSdA := HSdA7
            clear HRowsA7 HSdA7 q2 z2 r1 r0
            obtain ⟨w9, hw9⟩ : ∃ w9, (w6.setCell ⟨hb, 2, none⟩ (.slice oz yes'.length cz)) = w9 := ⟨_, rfl⟩
            have hpx := HP7.out
            have hrx := HRowsA.out
            rw [hw9] at hpx
            rw [hw9] at hrx
            rw [hw9]
            have HP3 := Lib.hid hpx
            have HRows := Lib.hid hrx
            have HNb := Lib.hid HNb3.out
            have HStep := HSt1
            clear hw9 hpx hrx m0 m1 m2 m4 y2 sd0 sd1
            obtain ⟨w3, hw3⟩ : ∃ w3, w3 = w9 := ⟨_, rfl⟩
            subst hw3
            obtain ⟨com', hcom'⟩ : ∃ com', com + cC ms = com' := ⟨_, rfl⟩
            obtain ⟨ab', hab'⟩ : ∃ ab', 0 + cA n ms = ab' := ⟨_, rfl⟩
            have hea : (0 : Int) + (if S = true then 0 else cC ms) = 0 := by
              by_cases hS : S = true
              · rw [if_pos hS]; rfl
              · rw [if_neg hS, HStep.out.early (Bool.eq_false_iff.2 hS)]; rfl
            have hlc : 0 ≤ com' ∧ com' ≤ 6 * ((i + 1 : Nat) : Int) := by
              have h1 := cC_le ms
              have h2 := HStep.out.len
              have h3 := HCom.out
              omega
            have hTl : T.length ≤ 10000 := by
              have h1 := congrArg List.length HT2.out.1
              rw [List.length_map] at h1
              have h2 := HStep.out.len
              omega
            have hlis := listen_any w3 hb W.heap.size n S (.slice oz yes'.length cz) com 0 0 T ov cv HP3.out.heard (cell_of_block HP3.out.ncell rfl) (by have := HP3.out.hbW; omega) HRows.out HT2.out.2 HNb.out hTl (by have := HCom.out; omega) (by omega) (by omega)
            rw [HT2.out.1, hcom', hab', hea] at hlis
            have HLis := Lib.hid hlis
            have HAb := Lib.hid hab'
            have HLc := Lib.hid hlc
            clear hlis hcom' hea hlc hTl hab'
            rcases HStep.out.next with ⟨e', hL, hO', hcA⟩ | ⟨hL, hgone⟩
            · have HOpn := Lib.hid (And.intro hL (And.intro hO' hcA))
              have hok' : e'.E.state = 1 ∨ e'.E.state = 2 ∨ e'.E.state = 3 := (HP3.out.all.ok (1, e') (by rw [hL]; simp)).state
              have hs0 : (e'.E.state == 0) = false := by simp; omega
              clear hL hO' hcA hok'
              go_wp2_with (first
                | (go_at_call 42; refine HLis.out.mono ?_; rintro e0 w4 ⟨rfl, hh4, hc4⟩
                   have HP4 := Lib.hid (HP3.out.hears hc4 hh4 (Nat.le_refl (i + 1)) HLc.out)
                   clear hh4 hc4)
                | (go_at_call 15; refine (state_all _ HP4.out.all 1 (by unfold inR; omega)).mono ?_; rw [HOpn.out.1, show ((mget [((1 : Int), e')] 1).map (·.E.state)).getD 0 = e'.E.state from rfl]; rintro e0 w5 ⟨rfl, rfl⟩))
              have hab0 : ab' = 0 := by have h1 := HAb.out; have h2 := HOpn.out.2.2; omega
              have hP4 := HP4.out
              rw [HOpn.out.1, hab0] at hP4
              exact ⟨⟨i + 1, S, yes', _, com', e', by go_num, by omega, by omega, hP4, HOpn.out.2.1⟩, meas_step (by omega)⟩
            · have HGn := Lib.hid (And.intro hL hgone)
              clear hL hgone
              go_wp2_with (first
                | (go_at_call 42; refine HLis.out.mono ?_; rintro e0 w4 ⟨rfl, hh4, hc4⟩
                   have HP4 := Lib.hid (HP3.out.hears hc4 hh4 (Nat.le_refl (i + 1)) HLc.out)
                   have HHd := Lib.hid hh4
                   have h0 : w4.cell? ⟨hb, 0, none⟩ = some (.bool S) := cell_of_block HHd.out rfl
                   have h1 : w4.cell? ⟨hb, 1, none⟩ = some (.bool false) := cell_of_block HHd.out rfl
                   have h2 : w4.cell? ⟨hb, 2, none⟩ = some (.slice oz yes'.length cz) := cell_of_block HHd.out rfl
                   have h3 : w4.cell? ⟨hb, 3, none⟩ = some (.int .i64 (com')) := cell_of_block HHd.out rfl
                   have h4 : w4.cell? ⟨hb, 4, none⟩ = some (.int .i64 (ab')) := cell_of_block HHd.out rfl
                   have h5 : w4.cell? ⟨hb, 5, none⟩ = some (.int .i64 0) := cell_of_block HHd.out rfl
                   have HRt := Lib.hid (heard_to HP4.out.res rfl S oz yes'.length cz com' ab' 0)
                   clear hh4 hc4)
                | (go_at_call 15; refine (state_all _ HP4.out.all 1 (by unfold inR; omega)).mono ?_; rw [HGn.out.1, show ((mget ([] : List (Int × Ent)) 1).map (·.E.state)).getD 0 = 0 from rfl]; rintro e0 w5 ⟨rfl, rfl⟩)
                | (refine wpList_store_mid rfl 47 _ _ rfl (W.heap.size + 1) 0 (heardC S (.slice oz yes'.length cz) com' ab' 0) rfl rfl HRt.out.there HRt.out.size HRt.out.one ?_))
              (try simp only [Exit.inBlock, Exit.then])
              refine bodyPost_ret (results3 rfl _ rfl HRt.out.load) rfl ?_
              have hpst : PSt n S yes' ab' L' := by
                rw [HGn.out.1]
                exact PSt.gone (fun hS => by have h1 := HAb.out; have h2 := HGn.out.2 (by first | exact hS | trivial); omega)
              exact ⟨c, S, yes', _, _, _, com', ab', Fc, q, L', rfl, HP4.out.all.kept HRt.out.chg (fun b hf e1 => by have := (HP4.out.foot b hf).1; omega), hpst, HP4.out.chg.new HRt.out.chg (fun b e1 => by omega)⟩
          · have hlb : (lg == 0) = false := by simp [hl]
            have hlb2 : (lg != 0) = true := by simp [hl]
            have HAll2 := Lib.hid (HAll.out hl)
            clear hl
            go_wp2_with (first
              | (go_at_call 23; refine (in_any _ HP3a.out.yesr (by have := HP3a.out.ylen; omega) f).mono ?_; rw [decide_eq_false hin]; rintro e0 w5 ⟨rfl, rfl⟩)
              | (at_builtin; refine wpList_append_own_at _ rfl _ _ 41 rfl (hb + 1) 3 i1 (.int .i64 0) 1 8 Try.underlying41 HI1.out.1 HI1.out.2.1 HI1.out.2.2.1 HI1.out.2.2.2 rfl (by decide) _ yes.length (yes.map (Value.int .i64)) rfl (row_kept HYR.out ((Chg.refl (fun _ => False) _).alloc _) (fun _ _ h => h)) ⟨w3.heap.size + 1, 0, none⟩ 1 1 [.int .i64 f] rfl rfl (by have h := cells_new (w3.alloc (.cells #[.slice ov T.length cv, .int .i64 lg, .int .i64 cl, .int .i64 gn] 36)) [.int .i64 f] 3; rw [World.size_alloc] at h; exact h) (by intro x hx; rw [List.mem_singleton.1 hx]; rfl) (by have := HY60.out; unfold maxLen; omega) (by have := HY60.out; omega) (by have h1 := lt_of_block HHd3.out; rw [World.size_alloc]; omega) ?_; intro v6 w6 ho6 hg6 hx1 hx2
                 rw [HYm.out, HYl.out] at ho6
                 obtain ⟨oz, cz, rfl⟩ := own_slice ho6
                 have hca5 := (Chg.refl (fun _ => False) (w3.alloc (.cells #[.slice ov T.length cv, .int .i64 lg, .int .i64 cl, .int .i64 gn] 36))).alloc (.cells #[.int .i64 f] 3)
                 have hc6 : Chg (fun b => some b = (Value.slice oy yes.length cy).ownBlock) (w3.alloc (.cells #[.slice ov T.length cv, .int .i64 lg, .int .i64 cl, .int .i64 gn] 36)) w6 := (hca5.mono (fun _ _ h => h.elim)).trans' (Chg.of_grown hg6)
                 have hown : ∀ b, (Value.slice oy yes.length cy).ownBlock = some b → hb < b := fun b hb1 => (HYR.out.lt b hb1).1
                 have hh6 := hc6.at HHd3.out (fun e1 => by have := hown hb e1.symm; omega)
                 have q2 : w6.cell? ⟨hb, 2, none⟩ = some (.slice oy yes.length cy) := cell_of_block hh6 rfl
                 have z2 : w6.frozen? ⟨hb, 2, none⟩ = false := free_of_block hh6
                 have hcs : Chg (· = hb) w6 (w6.setCell ⟨hb, 2, none⟩ (.slice oz yes'.length cz)) := Chg.setCell (S := (· = hb)) (Chg.refl _ _) (fun _ => rfl) _
                 have hh7 : (w6.setCell ⟨hb, 2, none⟩ (.slice oz yes'.length cz)).heap[hb]? = some (.cells (heardC S (.slice oz yes'.length cz) com 0 0) 47 (0, 0)) := by rw [block_setCell hh6]; rfl
                 have hc7 : Chg (fun b => b = hb ∨ some b = (Value.slice oy yes.length cy).ownBlock) (w3.alloc (.cells #[.slice ov T.length cv, .int .i64 lg, .int .i64 cl, .int .i64 gn] 36)) (w6.setCell ⟨hb, 2, none⟩ (.slice oz yes'.length cz)) := (hc6.mono (fun _ _ h => Or.inr h)).trans' (hcs.mono (fun _ _ h => Or.inl h))
                 have ho7 := row_kept ho6 hcs (fun b hb1 e1 => by have := (ho6.lt b hb1).1; omega)
                 have hm7 : ∀ b, (∃ cs fr, (w3.alloc (.cells #[.slice ov T.length cv, .int .i64 lg, .int .i64 cl, .int .i64 gn] 36)).heap[b]? = some (.cells cs 24 fr) ∨ (w3.alloc (.cells #[.slice ov T.length cv, .int .i64 lg, .int .i64 cl, .int .i64 gn] 36)).heap[b]? = some (.cells cs 36 fr)) → ¬ (b = hb ∨ some b = (Value.slice oy yes.length cy).ownBlock) := by
                   rintro b ⟨cs, fr, h1⟩ h2
                   rcases h2 with rfl | h2
                   · rw [HHd3.out] at h1
                     rcases h1 with h1 | h1 <;> (simp only [Option.some.injEq, Obj.cells.injEq] at h1; exact absurd h1.2.1 (by decide))
                   · obtain ⟨cur, h3⟩ := row_obj HYR.out h2.symm
                     rw [h3] at h1
                     rcases h1 with h1 | h1 <;> (simp only [Option.some.injEq, Obj.cells.injEq] at h1; exact absurd h1.2.1 (by decide))
                 have hsd7 := hc7.at HSd.out (hm7 _ ⟨_, _, Or.inr HSd.out⟩)
                 have r1 : (w6.setCell ⟨hb, 2, none⟩ (.slice oz yes'.length cz)).cell? ⟨w3.heap.size, 1, none⟩ = some (.int .i64 lg) := cell_of_block hsd7 rfl
                 have r0 : (w6.setCell ⟨hb, 2, none⟩ (.slice oz yes'.length cz)).cell? ⟨w3.heap.size, 0, none⟩ = some (.slice ov T.length cv) := cell_of_block hsd7 rfl
                 have HP7 := Lib.hid (HP3a.out.says hc7 hh7 ho7 HYl.out (by
                   have hx3 : (Value.slice oz yes'.length cz).ownBlock = (Value.slice oy yes.length cy).ownBlock ∨ (Value.slice oz yes'.length cz).ownBlock = some (((w3.alloc (.cells #[.slice ov T.length cv, .int .i64 lg, .int .i64 cl, .int .i64 gn] 36)).alloc (.cells #[.int .i64 f] 3)).heap.size) := hx2
                   rcases hx3 with h | h
                   · exact fun b hb1 => Or.inl (by rw [← h]; exact hb1)
                   · intro b hb1
                     rw [h] at hb1
                     have h2 : ((w3.alloc (.cells #[.slice ov T.length cv, .int .i64 lg, .int .i64 cl, .int .i64 gn] 36)).alloc (.cells #[.int .i64 f] 3)).heap.size = b := Option.some.inj hb1
                     rw [World.size_alloc] at h2
                     exact Or.inr (by omega)))
                 have HRowsA7 := Lib.hid (rows_keptF HRowsA.out hc7 (F := fun b => ∃ cs fr, w3.heap[b]? = some (.cells cs 24 fr)) (by rw [List.length_map]; exact HIn.out) (fun b hb1 => by obtain ⟨cs, fr, h1⟩ := hb1; exact hm7 b ⟨cs, fr, Or.inl (HCa4.out.at h1 id)⟩))
                 have HSdA7 := Lib.hid hsd7
                 clear ho6 hg6 hx1 hx2 hca5 hc6 hown hh6 hcs hh7 hc7 ho7 hm7 hsd7)
              | (go_at_call 42; fail))
            clear HRowsA HSdA
            have HRowsA := HRowsA7
            have HSdA := HSdA7
            clear HRowsA7 HSdA7 q2 z2 r1 r0
            have nc : (w6.setCell ⟨hb, 2, none⟩ (.slice oz yes'.length cz)).cell? ⟨W.heap.size, 0, none⟩ = some (.int .i64 n) := cell_of_block HP7.out.ncell rfl
            obtain ⟨w9, hw9⟩ : ∃ w9, (w6.setCell ⟨hb, 2, none⟩ (.slice oz yes'.length cz)) = w9 := ⟨_, rfl⟩
            have hpx := HP7.out
            have hrx := HRowsA.out
            have hsx := HSdA.out
            rw [hw9] at hpx
            rw [hw9] at hrx
            rw [hw9] at hsx
            rw [hw9]
            have HP9 := Lib.hid hpx
            have HRows9 := Lib.hid hrx
            have HSd9 := Lib.hid hsx
            clear hw9 hpx hrx hsx m0 m1 m2 m4 y2 sd0 sd1 nc
            go_loopw [20] (fun j wx => ∃ r : Nat, j = .int .i64 ((r : Int) + 1) ∧ r ≤ n ∧ Chg (fun _ => False) w9 wx) (fun j _ => n + 1 - (intOf j).toNat)
            · exact ⟨0, rfl, Nat.zero_le _, Chg.refl _ _⟩
            obtain ⟨rr, rfl, hrr, hcx⟩ := hrel
            have HCx := Lib.hid hcx
            clear hcx
            have HPx := Lib.hid (HP9.out.fresh HCx.out)
            have nc : wr.cell? ⟨W.heap.size, 0, none⟩ = some (.int .i64 n) := cell_of_block HPx.out.ncell rfl
            have y2 : wr.cell? ⟨hb, 2, none⟩ = some (.slice oz yes'.length cz) := cell_of_block HPx.out.heard rfl
            by_cases hrl : rr < n
            · have hri : (rr : Int) + 1 ≤ (n : Int) := by omega
              have hmem : ((rr : Int) + 1) ∈ yes' := HAll2.out _ (upto_le.2 ⟨by omega, by omega⟩)
              have HMem := Lib.hid hmem
              have hr1000 : rr < 1000 := by have := HN.out.2; omega
              clear hmem
              go_wp2_with (go_at_call 23; refine (in_any _ HPx.out.yesr (by have := HPx.out.ylen; omega) _).mono ?_; rw [decide_eq_true HMem.out]; rintro e0 w5 ⟨rfl, rfl⟩)
              exact ⟨⟨rr + 1, by go_num, hrl, HCx.out⟩, by simp [intOf]; omega⟩
            · have hri : ¬ (rr : Int) + 1 ≤ (n : Int) := by omega
              have sd0 : wr.cell? ⟨w3.heap.size, 0, none⟩ = some (.slice ov T.length cv) := cell_of_block (HCx.out.at HSd9.out id) rfl
              go_wp2_with (first
                | (go_at_call 42; fail))
              have HP3 := HPx
              have HRows := Lib.hid (HRows9.out.kept HCx.out (fun _ _ h => h))
              have HNb := Lib.hid HNb3.out
              have HStep := HSt1
              clear nc y2 sd0
              obtain ⟨w3, hw3⟩ : ∃ w3, w3 = wr := ⟨_, rfl⟩
              subst hw3
              obtain ⟨com', hcom'⟩ : ∃ com', com + cC ms = com' := ⟨_, rfl⟩
              obtain ⟨ab', hab'⟩ : ∃ ab', 0 + cA n ms = ab' := ⟨_, rfl⟩
              have hea : (0 : Int) + (if S = true then 0 else cC ms) = 0 := by
                by_cases hS : S = true
                · rw [if_pos hS]; rfl
                · rw [if_neg hS, HStep.out.early (Bool.eq_false_iff.2 hS)]; rfl
              have hlc : 0 ≤ com' ∧ com' ≤ 6 * ((i + 1 : Nat) : Int) := by
                have h1 := cC_le ms
                have h2 := HStep.out.len
                have h3 := HCom.out
                omega
              have hTl : T.length ≤ 10000 := by
                have h1 := congrArg List.length HT2.out.1
                rw [List.length_map] at h1
                have h2 := HStep.out.len
                omega
              have hlis := listen_any w3 hb W.heap.size n S (.slice oz yes'.length cz) com 0 0 T ov cv HP3.out.heard (cell_of_block HP3.out.ncell rfl) (by have := HP3.out.hbW; omega) HRows.out HT2.out.2 HNb.out hTl (by have := HCom.out; omega) (by omega) (by omega)
              rw [HT2.out.1, hcom', hab', hea] at hlis
              have HLis := Lib.hid hlis
              have HAb := Lib.hid hab'
              have HLc := Lib.hid hlc
              clear hlis hcom' hea hlc hTl hab'
              rcases HStep.out.next with ⟨e', hL, hO', hcA⟩ | ⟨hL, hgone⟩
              · have HOpn := Lib.hid (And.intro hL (And.intro hO' hcA))
                have hok' : e'.E.state = 1 ∨ e'.E.state = 2 ∨ e'.E.state = 3 := (HP3.out.all.ok (1, e') (by rw [hL]; simp)).state
                have hs0 : (e'.E.state == 0) = false := by simp; omega
                clear hL hO' hcA hok'
                go_wp2_with (first
                  | (go_at_call 42; refine HLis.out.mono ?_; rintro e0 w4 ⟨rfl, hh4, hc4⟩
                     have HP4 := Lib.hid (HP3.out.hears hc4 hh4 (Nat.le_refl (i + 1)) HLc.out)
                     clear hh4 hc4)
                  | (go_at_call 15; refine (state_all _ HP4.out.all 1 (by unfold inR; omega)).mono ?_; rw [HOpn.out.1, show ((mget [((1 : Int), e')] 1).map (·.E.state)).getD 0 = e'.E.state from rfl]; rintro e0 w5 ⟨rfl, rfl⟩))
                have hab0 : ab' = 0 := by have h1 := HAb.out; have h2 := HOpn.out.2.2; omega
                have hP4 := HP4.out
                rw [HOpn.out.1, hab0] at hP4
                exact ⟨⟨i + 1, S, yes', _, com', e', by go_num, by omega, by omega, hP4, HOpn.out.2.1⟩, meas_step (by omega)⟩
              · have HGn := Lib.hid (And.intro hL hgone)
                clear hL hgone
                go_wp2_with (first
                  | (go_at_call 42; refine HLis.out.mono ?_; rintro e0 w4 ⟨rfl, hh4, hc4⟩
                     have HP4 := Lib.hid (HP3.out.hears hc4 hh4 (Nat.le_refl (i + 1)) HLc.out)
                     have HHd := Lib.hid hh4
                     have h0 : w4.cell? ⟨hb, 0, none⟩ = some (.bool S) := cell_of_block HHd.out rfl
                     have h1 : w4.cell? ⟨hb, 1, none⟩ = some (.bool false) := cell_of_block HHd.out rfl
                     have h2 : w4.cell? ⟨hb, 2, none⟩ = some (.slice oz yes'.length cz) := cell_of_block HHd.out rfl
                     have h3 : w4.cell? ⟨hb, 3, none⟩ = some (.int .i64 (com')) := cell_of_block HHd.out rfl
                     have h4 : w4.cell? ⟨hb, 4, none⟩ = some (.int .i64 (ab')) := cell_of_block HHd.out rfl
                     have h5 : w4.cell? ⟨hb, 5, none⟩ = some (.int .i64 0) := cell_of_block HHd.out rfl
                     have HRt := Lib.hid (heard_to HP4.out.res rfl S oz yes'.length cz com' ab' 0)
                     clear hh4 hc4)
                  | (go_at_call 15; refine (state_all _ HP4.out.all 1 (by unfold inR; omega)).mono ?_; rw [HGn.out.1, show ((mget ([] : List (Int × Ent)) 1).map (·.E.state)).getD 0 = 0 from rfl]; rintro e0 w5 ⟨rfl, rfl⟩)
                  | (refine wpList_store_mid rfl 47 _ _ rfl (W.heap.size + 1) 0 (heardC S (.slice oz yes'.length cz) com' ab' 0) rfl rfl HRt.out.there HRt.out.size HRt.out.one ?_))
                (try simp only [Exit.inBlock, Exit.then])
                refine bodyPost_ret (results3 rfl _ rfl HRt.out.load) rfl ?_
                have hpst : PSt n S yes' ab' L' := by
                  rw [HGn.out.1]
                  exact PSt.gone (fun hS => by have h1 := HAb.out; have h2 := HGn.out.2 (by first | exact hS | trivial); omega)
                exact ⟨c, S, yes', _, _, _, com', ab', Fc, q, L', rfl, HP4.out.all.kept HRt.out.chg (fun b hf e1 => by have := (HP4.out.foot b hf).1; omega), hpst, HP4.out.chg.new HRt.out.chg (fun b e1 => by omega)⟩
      · have hst := HStep.out yes (fun _ h => h) (fun h1 h2 h3 => absurd ⟨h1, h2, h3⟩ hA)
        have HSt1 := Lib.hid hst.1
        have hl : lg = 0 := by
          by_cases h : lg = 0
          · exact h
          · exact absurd (HLg2.out h) hA
        clear hst
        subst hl
        have hcases : (kd == 2) = false ∨ ((kd == 2) = true ∧ y = false) ∨ ((kd == 2) = true ∧ y = true ∧ (t == 0) = false) := by
          by_cases h1 : kd = 2
          · cases y with
            | false => exact Or.inr (Or.inl ⟨by simp [h1], rfl⟩)
            | true => exact Or.inr (Or.inr ⟨by simp [h1], rfl, by simp; exact fun h3 => hA ⟨h1, rfl, h3⟩⟩)
          · exact Or.inl (by simp [h1])
        clear hA
        rcases hcases with g1 | ⟨g1, rfl⟩ | ⟨g1, rfl, g2⟩
        · go_wp2_with (first
            | (go_at_call 42; fail))
          obtain ⟨w9, hw9⟩ : ∃ w9, (w3.alloc (.cells #[.slice ov T.length cv, .int .i64 0, .int .i64 cl, .int .i64 gn] 36)) = w9 := ⟨_, rfl⟩
          have hpx := HP3a.out
          have hrx := HRowsA.out
          rw [hw9] at hpx
          rw [hw9] at hrx
          rw [hw9]
          have HP3 := Lib.hid hpx
          have HRows := Lib.hid hrx
          have HNb := Lib.hid HNb3.out
          have HStep := HSt1
          clear hw9 hpx hrx m0 m1 m2 m4 y2 sd0 sd1
          obtain ⟨w3, hw3⟩ : ∃ w3, w3 = w9 := ⟨_, rfl⟩
          subst hw3
          obtain ⟨com', hcom'⟩ : ∃ com', com + cC ms = com' := ⟨_, rfl⟩
          obtain ⟨ab', hab'⟩ : ∃ ab', 0 + cA n ms = ab' := ⟨_, rfl⟩
          have hea : (0 : Int) + (if S = true then 0 else cC ms) = 0 := by
            by_cases hS : S = true
            · rw [if_pos hS]; rfl
            · rw [if_neg hS, HStep.out.early (Bool.eq_false_iff.2 hS)]; rfl
          have hlc : 0 ≤ com' ∧ com' ≤ 6 * ((i + 1 : Nat) : Int) := by
            have h1 := cC_le ms
            have h2 := HStep.out.len
            have h3 := HCom.out
            omega
          have hTl : T.length ≤ 10000 := by
            have h1 := congrArg List.length HT2.out.1
            rw [List.length_map] at h1
            have h2 := HStep.out.len
            omega
          have hlis := listen_any w3 hb W.heap.size n S (.slice oy yes.length cy) com 0 0 T ov cv HP3.out.heard (cell_of_block HP3.out.ncell rfl) (by have := HP3.out.hbW; omega) HRows.out HT2.out.2 HNb.out hTl (by have := HCom.out; omega) (by omega) (by omega)
          rw [HT2.out.1, hcom', hab', hea] at hlis
          have HLis := Lib.hid hlis
          have HAb := Lib.hid hab'
          have HLc := Lib.hid hlc
          clear hlis hcom' hea hlc hTl hab'
          rcases HStep.out.next with ⟨e', hL, hO', hcA⟩ | ⟨hL, hgone⟩
          · have HOpn := Lib.hid (And.intro hL (And.intro hO' hcA))
            have hok' : e'.E.state = 1 ∨ e'.E.state = 2 ∨ e'.E.state = 3 := (HP3.out.all.ok (1, e') (by rw [hL]; simp)).state
            have hs0 : (e'.E.state == 0) = false := by simp; omega
            clear hL hO' hcA hok'
            go_wp2_with (first
              | (go_at_call 42; refine HLis.out.mono ?_; rintro e0 w4 ⟨rfl, hh4, hc4⟩
                 have HP4 := Lib.hid (HP3.out.hears hc4 hh4 (Nat.le_succ i) HLc.out)
                 clear hh4 hc4)
              | (go_at_call 15; refine (state_all _ HP4.out.all 1 (by unfold inR; omega)).mono ?_; rw [HOpn.out.1, show ((mget [((1 : Int), e')] 1).map (·.E.state)).getD 0 = e'.E.state from rfl]; rintro e0 w5 ⟨rfl, rfl⟩))
            have hab0 : ab' = 0 := by have h1 := HAb.out; have h2 := HOpn.out.2.2; omega
            have hP4 := HP4.out
            rw [HOpn.out.1, hab0] at hP4
            exact ⟨⟨i + 1, S, yes, _, com', e', by go_num, by omega, by omega, hP4, HOpn.out.2.1⟩, meas_step (by omega)⟩
          · have HGn := Lib.hid (And.intro hL hgone)
            clear hL hgone
            go_wp2_with (first
              | (go_at_call 42; refine HLis.out.mono ?_; rintro e0 w4 ⟨rfl, hh4, hc4⟩
                 have HP4 := Lib.hid (HP3.out.hears hc4 hh4 (Nat.le_succ i) HLc.out)
                 have HHd := Lib.hid hh4
                 have h0 : w4.cell? ⟨hb, 0, none⟩ = some (.bool S) := cell_of_block HHd.out rfl
                 have h1 : w4.cell? ⟨hb, 1, none⟩ = some (.bool false) := cell_of_block HHd.out rfl
                 have h2 : w4.cell? ⟨hb, 2, none⟩ = some (.slice oy yes.length cy) := cell_of_block HHd.out rfl
                 have h3 : w4.cell? ⟨hb, 3, none⟩ = some (.int .i64 (com')) := cell_of_block HHd.out rfl
                 have h4 : w4.cell? ⟨hb, 4, none⟩ = some (.int .i64 (ab')) := cell_of_block HHd.out rfl
                 have h5 : w4.cell? ⟨hb, 5, none⟩ = some (.int .i64 0) := cell_of_block HHd.out rfl
                 have HRt := Lib.hid (heard_to HP4.out.res rfl S oy yes.length cy com' ab' 0)
                 clear hh4 hc4)
              | (go_at_call 15; refine (state_all _ HP4.out.all 1 (by unfold inR; omega)).mono ?_; rw [HGn.out.1, show ((mget ([] : List (Int × Ent)) 1).map (·.E.state)).getD 0 = 0 from rfl]; rintro e0 w5 ⟨rfl, rfl⟩)
              | (refine wpList_store_mid rfl 47 _ _ rfl (W.heap.size + 1) 0 (heardC S (.slice oy yes.length cy) com' ab' 0) rfl rfl HRt.out.there HRt.out.size HRt.out.one ?_))
            (try simp only [Exit.inBlock, Exit.then])
            refine bodyPost_ret (results3 rfl _ rfl HRt.out.load) rfl ?_
            have hpst : PSt n S yes ab' L' := by
              rw [HGn.out.1]
              exact PSt.gone (fun hS => by have h1 := HAb.out; have h2 := HGn.out.2 (by first | exact hS | trivial); omega)
            exact ⟨c, S, yes, _, _, _, com', ab', Fc, q, L', rfl, HP4.out.all.kept HRt.out.chg (fun b hf e1 => by have := (HP4.out.foot b hf).1; omega), hpst, HP4.out.chg.new HRt.out.chg (fun b e1 => by omega)⟩
        · go_wp2_with (first
            | (go_at_call 42; fail))
          obtain ⟨w9, hw9⟩ : ∃ w9, (w3.alloc (.cells #[.slice ov T.length cv, .int .i64 0, .int .i64 cl, .int .i64 gn] 36)) = w9 := ⟨_, rfl⟩
          have hpx := HP3a.out
          have hrx := HRowsA.out
          rw [hw9] at hpx
          rw [hw9] at hrx
          rw [hw9]
          have HP3 := Lib.hid hpx
          have HRows := Lib.hid hrx
          have HNb := Lib.hid HNb3.out
          have HStep := HSt1
          clear hw9 hpx hrx m0 m1 m2 m4 y2 sd0 sd1
          obtain ⟨w3, hw3⟩ : ∃ w3, w3 = w9 := ⟨_, rfl⟩
          subst hw3
          obtain ⟨com', hcom'⟩ : ∃ com', com + cC ms = com' := ⟨_, rfl⟩
          obtain ⟨ab', hab'⟩ : ∃ ab', 0 + cA n ms = ab' := ⟨_, rfl⟩
          have hea : (0 : Int) + (if S = true then 0 else cC ms) = 0 := by
            by_cases hS : S = true
            · rw [if_pos hS]; rfl
            · rw [if_neg hS, HStep.out.early (Bool.eq_false_iff.2 hS)]; rfl
          have hlc : 0 ≤ com' ∧ com' ≤ 6 * ((i + 1 : Nat) : Int) := by
            have h1 := cC_le ms
            have h2 := HStep.out.len
            have h3 := HCom.out
            omega
          have hTl : T.length ≤ 10000 := by
            have h1 := congrArg List.length HT2.out.1
            rw [List.length_map] at h1
            have h2 := HStep.out.len
            omega
          have hlis := listen_any w3 hb W.heap.size n S (.slice oy yes.length cy) com 0 0 T ov cv HP3.out.heard (cell_of_block HP3.out.ncell rfl) (by have := HP3.out.hbW; omega) HRows.out HT2.out.2 HNb.out hTl (by have := HCom.out; omega) (by omega) (by omega)
          rw [HT2.out.1, hcom', hab', hea] at hlis
          have HLis := Lib.hid hlis
          have HAb := Lib.hid hab'
          have HLc := Lib.hid hlc
          clear hlis hcom' hea hlc hTl hab'
          rcases HStep.out.next with ⟨e', hL, hO', hcA⟩ | ⟨hL, hgone⟩
          · have HOpn := Lib.hid (And.intro hL (And.intro hO' hcA))
            have hok' : e'.E.state = 1 ∨ e'.E.state = 2 ∨ e'.E.state = 3 := (HP3.out.all.ok (1, e') (by rw [hL]; simp)).state
            have hs0 : (e'.E.state == 0) = false := by simp; omega
            clear hL hO' hcA hok'
            go_wp2_with (first
              | (go_at_call 42; refine HLis.out.mono ?_; rintro e0 w4 ⟨rfl, hh4, hc4⟩
                 have HP4 := Lib.hid (HP3.out.hears hc4 hh4 (Nat.le_succ i) HLc.out)
                 clear hh4 hc4)
              | (go_at_call 15; refine (state_all _ HP4.out.all 1 (by unfold inR; omega)).mono ?_; rw [HOpn.out.1, show ((mget [((1 : Int), e')] 1).map (·.E.state)).getD 0 = e'.E.state from rfl]; rintro e0 w5 ⟨rfl, rfl⟩))
            have hab0 : ab' = 0 := by have h1 := HAb.out; have h2 := HOpn.out.2.2; omega
            have hP4 := HP4.out
            rw [HOpn.out.1, hab0] at hP4
            exact ⟨⟨i + 1, S, yes, _, com', e', by go_num, by omega, by omega, hP4, HOpn.out.2.1⟩, meas_step (by omega)⟩
          · have HGn := Lib.hid (And.intro hL hgone)
            clear hL hgone
            go_wp2_with (first
              | (go_at_call 42; refine HLis.out.mono ?_; rintro e0 w4 ⟨rfl, hh4, hc4⟩
                 have HP4 := Lib.hid (HP3.out.hears hc4 hh4 (Nat.le_succ i) HLc.out)
                 have HHd := Lib.hid hh4
                 have h0 : w4.cell? ⟨hb, 0, none⟩ = some (.bool S) := cell_of_block HHd.out rfl
                 have h1 : w4.cell? ⟨hb, 1, none⟩ = some (.bool false) := cell_of_block HHd.out rfl
                 have h2 : w4.cell? ⟨hb, 2, none⟩ = some (.slice oy yes.length cy) := cell_of_block HHd.out rfl
                 have h3 : w4.cell? ⟨hb, 3, none⟩ = some (.int .i64 (com')) := cell_of_block HHd.out rfl
                 have h4 : w4.cell? ⟨hb, 4, none⟩ = some (.int .i64 (ab')) := cell_of_block HHd.out rfl
                 have h5 : w4.cell? ⟨hb, 5, none⟩ = some (.int .i64 0) := cell_of_block HHd.out rfl
                 have HRt := Lib.hid (heard_to HP4.out.res rfl S oy yes.length cy com' ab' 0)
                 clear hh4 hc4)
              | (go_at_call 15; refine (state_all _ HP4.out.all 1 (by unfold inR; omega)).mono ?_; rw [HGn.out.1, show ((mget ([] : List (Int × Ent)) 1).map (·.E.state)).getD 0 = 0 from rfl]; rintro e0 w5 ⟨rfl, rfl⟩)
              | (refine wpList_store_mid rfl 47 _ _ rfl (W.heap.size + 1) 0 (heardC S (.slice oy yes.length cy) com' ab' 0) rfl rfl HRt.out.there HRt.out.size HRt.out.one ?_))
            (try simp only [Exit.inBlock, Exit.then])
            refine bodyPost_ret (results3 rfl _ rfl HRt.out.load) rfl ?_
            have hpst : PSt n S yes ab' L' := by
              rw [HGn.out.1]
              exact PSt.gone (fun hS => by have h1 := HAb.out; have h2 := HGn.out.2 (by first | exact hS | trivial); omega)
            exact ⟨c, S, yes, _, _, _, com', ab', Fc, q, L', rfl, HP4.out.all.kept HRt.out.chg (fun b hf e1 => by have := (HP4.out.foot b hf).1; omega), hpst, HP4.out.chg.new HRt.out.chg (fun b e1 => by omega)⟩
        · go_wp2_with (first
            | (go_at_call 42; fail))
          obtain ⟨w9, hw9⟩ : ∃ w9, (w3.alloc (.cells #[.slice ov T.length cv, .int .i64 0, .int .i64 cl, .int .i64 gn] 36)) = w9 := ⟨_, rfl⟩
          have hpx := HP3a.out
          have hrx := HRowsA.out
          rw [hw9] at hpx
          rw [hw9] at hrx
          rw [hw9]
          have HP3 := Lib.hid hpx
          have HRows := Lib.hid hrx
          have HNb := Lib.hid HNb3.out
          have HStep := HSt1
          clear hw9 hpx hrx m0 m1 m2 m4 y2 sd0 sd1
          obtain ⟨w3, hw3⟩ : ∃ w3, w3 = w9 := ⟨_, rfl⟩
          subst hw3
          obtain ⟨com', hcom'⟩ : ∃ com', com + cC ms = com' := ⟨_, rfl⟩
          obtain ⟨ab', hab'⟩ : ∃ ab', 0 + cA n ms = ab' := ⟨_, rfl⟩
          have hea : (0 : Int) + (if S = true then 0 else cC ms) = 0 := by
            by_cases hS : S = true
            · rw [if_pos hS]; rfl
            · rw [if_neg hS, HStep.out.early (Bool.eq_false_iff.2 hS)]; rfl
          have hlc : 0 ≤ com' ∧ com' ≤ 6 * ((i + 1 : Nat) : Int) := by
            have h1 := cC_le ms
            have h2 := HStep.out.len
            have h3 := HCom.out
            omega
          have hTl : T.length ≤ 10000 := by
            have h1 := congrArg List.length HT2.out.1
            rw [List.length_map] at h1
            have h2 := HStep.out.len
            omega
          have hlis := listen_any w3 hb W.heap.size n S (.slice oy yes.length cy) com 0 0 T ov cv HP3.out.heard (cell_of_block HP3.out.ncell rfl) (by have := HP3.out.hbW; omega) HRows.out HT2.out.2 HNb.out hTl (by have := HCom.out; omega) (by omega) (by omega)
          rw [HT2.out.1, hcom', hab', hea] at hlis
          have HLis := Lib.hid hlis
          have HAb := Lib.hid hab'
          have HLc := Lib.hid hlc
          clear hlis hcom' hea hlc hTl hab'
          rcases HStep.out.next with ⟨e', hL, hO', hcA⟩ | ⟨hL, hgone⟩
          · have HOpn := Lib.hid (And.intro hL (And.intro hO' hcA))
            have hok' : e'.E.state = 1 ∨ e'.E.state = 2 ∨ e'.E.state = 3 := (HP3.out.all.ok (1, e') (by rw [hL]; simp)).state
            have hs0 : (e'.E.state == 0) = false := by simp; omega
            clear hL hO' hcA hok'
            go_wp2_with (first
              | (go_at_call 42; refine HLis.out.mono ?_; rintro e0 w4 ⟨rfl, hh4, hc4⟩
                 have HP4 := Lib.hid (HP3.out.hears hc4 hh4 (Nat.le_succ i) HLc.out)
                 clear hh4 hc4)
              | (go_at_call 15; refine (state_all _ HP4.out.all 1 (by unfold inR; omega)).mono ?_; rw [HOpn.out.1, show ((mget [((1 : Int), e')] 1).map (·.E.state)).getD 0 = e'.E.state from rfl]; rintro e0 w5 ⟨rfl, rfl⟩))
            have hab0 : ab' = 0 := by have h1 := HAb.out; have h2 := HOpn.out.2.2; omega
            have hP4 := HP4.out
            rw [HOpn.out.1, hab0] at hP4
            exact ⟨⟨i + 1, S, yes, _, com', e', by go_num, by omega, by omega, hP4, HOpn.out.2.1⟩, meas_step (by omega)⟩
          · have HGn := Lib.hid (And.intro hL hgone)
            clear hL hgone
            go_wp2_with (first
              | (go_at_call 42; refine HLis.out.mono ?_; rintro e0 w4 ⟨rfl, hh4, hc4⟩
                 have HP4 := Lib.hid (HP3.out.hears hc4 hh4 (Nat.le_succ i) HLc.out)
                 have HHd := Lib.hid hh4
                 have h0 : w4.cell? ⟨hb, 0, none⟩ = some (.bool S) := cell_of_block HHd.out rfl
                 have h1 : w4.cell? ⟨hb, 1, none⟩ = some (.bool false) := cell_of_block HHd.out rfl
                 have h2 : w4.cell? ⟨hb, 2, none⟩ = some (.slice oy yes.length cy) := cell_of_block HHd.out rfl
                 have h3 : w4.cell? ⟨hb, 3, none⟩ = some (.int .i64 (com')) := cell_of_block HHd.out rfl
                 have h4 : w4.cell? ⟨hb, 4, none⟩ = some (.int .i64 (ab')) := cell_of_block HHd.out rfl
                 have h5 : w4.cell? ⟨hb, 5, none⟩ = some (.int .i64 0) := cell_of_block HHd.out rfl
                 have HRt := Lib.hid (heard_to HP4.out.res rfl S oy yes.length cy com' ab' 0)
                 clear hh4 hc4)
              | (go_at_call 15; refine (state_all _ HP4.out.all 1 (by unfold inR; omega)).mono ?_; rw [HGn.out.1, show ((mget ([] : List (Int × Ent)) 1).map (·.E.state)).getD 0 = 0 from rfl]; rintro e0 w5 ⟨rfl, rfl⟩)
              | (refine wpList_store_mid rfl 47 _ _ rfl (W.heap.size + 1) 0 (heardC S (.slice oy yes.length cy) com' ab' 0) rfl rfl HRt.out.there HRt.out.size HRt.out.one ?_))
            (try simp only [Exit.inBlock, Exit.then])
            refine bodyPost_ret (results3 rfl _ rfl HRt.out.load) rfl ?_
            have hpst : PSt n S yes ab' L' := by
              rw [HGn.out.1]
              exact PSt.gone (fun hS => by have h1 := HAb.out; have h2 := HGn.out.2 (by first | exact hS | trivial); omega)
            exact ⟨c, S, yes, _, _, _, com', ab', Fc, q, L', rfl, HP4.out.all.kept HRt.out.chg (fun b hf e1 => by have := (HP4.out.foot b hf).1; omega), hpst, HP4.out.chg.new HRt.out.chg (fun b e1 => by omega)⟩
    · have hk2 : (k == 2) = false := by simp [k2]
      by_cases k3 : k = 3
      · subst k3
        clear k2 hk2
        go_wp2_with (first
          | (go_at_call 25; fail))
        refine (sure_all _ HPa.out.all 1 (by unfold inR; omega)).mono ?_
        rintro e0 w3 ⟨v3, nn, ms, L', rfl, ho3, hq3, ha3, hF3, hc3⟩
        obtain ⟨T, hT1, hT2, hT3⟩ := ho3.is
        obtain ⟨ov, cv, hv3, -⟩ := hT1.slice
        rw [List.length_map] at hv3
        subst hv3
        obtain ⟨hnn, hstep⟩ := sure_step HO.out HN.out.2 hq3
        have HT := Lib.hid (And.intro hT1 (And.intro hT2 hT3))
        have hp3 := HPa.out.call hc3 ha3 hF3
        have hd3 := hp3.heard
        have HP3 := Lib.hid hp3
        have HD3 := Lib.hid hd3
        have HSz := Lib.hid (show hb < (wr.alloc (.cells #[.int .i64 3, .int .i64 tx, .slice oap pl.length capp, .int .i64 kd, .int .i64 f, .int .i64 t, .int .i64 mt, .bool y, .slice oa ps.length cap] 61)).heap.size from by have := HHb.out; rw [World.size_alloc]; omega)
        clear ho3 hT1 hT2 hT3 hq3 ha3 hc3 hF3 hp3 hd3
        dsimp only
        rcases hnn with rfl | rfl
        · rw [show (S || decide ((0 : Int) = 0)) = true from by simp] at hstep
          have HStep := Lib.hid hstep
          clear hstep
          have s0 : w3.cell? ⟨hb, 0, none⟩ = some (.bool S) := cell_of_block HD3.out rfl
          have z0 : w3.frozen? ⟨hb, 0, none⟩ = false := free_of_block HD3.out
          have hcs : Chg (· = hb) w3 (w3.setCell ⟨hb, 0, none⟩ (.bool true)) := Chg.setCell (S := (· = hb)) (Chg.refl _ _) (fun _ => rfl) _
          have hbs : (w3.setCell ⟨hb, 0, none⟩ (.bool true)).heap[hb]? = some (.cells (heardC true (.slice oy yes.length cy) com 0 0) 47 (0, 0)) := by rw [block_setCell HD3.out]; rfl
          have hT5 := OwnRecs.kept HT.out.1 hcs (fun b hb1 e1 => by have h1 := (HT.out.1.lt hb1).1; have h2 := HSz.out; omega)
          have hP5 := HP3.out.hears hcs hbs (Nat.le_refl i) HP3.out.com0
          have HT5 := Lib.hid (And.intro hT5 HT.out.2)
          have HP5 := Lib.hid hP5
          clear hcs hbs hT5 hP5
          cases S
          all_goals go_wp2_with (first
            | (go_at_call 42; fail))
          all_goals obtain ⟨w5, hw5⟩ : ∃ w5, w3.setCell ⟨hb, 0, none⟩ (.bool true) = w5 := ⟨_, rfl⟩
          all_goals rw [hw5] at HT5 HP5 ⊢
          all_goals clear s0 z0 hw5 HP3 HT HD3
          all_goals have HP3 := HP5
          all_goals have HT := HT5
          all_goals clear HP5 HT5
          · obtain ⟨w3, hw3⟩ : ∃ w3, w3 = w5 := ⟨_, rfl⟩
            subst hw3
            have HRows := Lib.hid (rows_of_own HT.out.1)
            have HT2 := Lib.hid HT.out.2
            have HNb := Lib.hid (show ∀ b off, ov = some ⟨b, off, none⟩ → T ≠ [] → b ≠ hb from fun b off ho hT e1 => by
              have h1 := in_of_own HT.out.1 (F := fun b => hb < b) (fun b hb1 _ => Nat.lt_of_lt_of_le HSz.out hb1) (by rw [List.length_map]; exact fun h => hT (List.eq_nil_of_length_eq_zero h)) b off ho
              omega)
            obtain ⟨com', hcom'⟩ : ∃ com', com + cC ms = com' := ⟨_, rfl⟩
            obtain ⟨ab', hab'⟩ : ∃ ab', 0 + cA n ms = ab' := ⟨_, rfl⟩
            have hea : (0 : Int) + (if true = true then 0 else cC ms) = 0 := by
              by_cases hS : true = true
              · rw [if_pos hS]; rfl
              · rw [if_neg hS, HStep.out.early (Bool.eq_false_iff.2 hS)]; rfl
            have hlc : 0 ≤ com' ∧ com' ≤ 6 * ((i + 1 : Nat) : Int) := by
              have h1 := cC_le ms
              have h2 := HStep.out.len
              have h3 := HCom.out
              omega
            have hTl : T.length ≤ 10000 := by
              have h1 := congrArg List.length HT2.out.1
              rw [List.length_map] at h1
              have h2 := HStep.out.len
              omega
            have hlis := listen_any w3 hb W.heap.size n true (.slice oy yes.length cy) com 0 0 T ov cv HP3.out.heard (cell_of_block HP3.out.ncell rfl) (by have := HP3.out.hbW; omega) HRows.out HT2.out.2 HNb.out hTl (by have := HCom.out; omega) (by omega) (by omega)
            rw [HT2.out.1, hcom', hab', hea] at hlis
            have HLis := Lib.hid hlis
            have HAb := Lib.hid hab'
            have HLc := Lib.hid hlc
            clear hlis hcom' hea hlc hTl hab'
            rcases HStep.out.next with ⟨e', hL, hO', hcA⟩ | ⟨hL, hgone⟩
            · have HOpn := Lib.hid (And.intro hL (And.intro hO' hcA))
              have hok' : e'.E.state = 1 ∨ e'.E.state = 2 ∨ e'.E.state = 3 := (HP3.out.all.ok (1, e') (by rw [hL]; simp)).state
              have hs0 : (e'.E.state == 0) = false := by simp; omega
              clear hL hO' hcA hok'
              go_wp2_with (first
                | (go_at_call 42; refine HLis.out.mono ?_; rintro e0 w4 ⟨rfl, hh4, hc4⟩
                   have HP4 := Lib.hid (HP3.out.hears hc4 hh4 (Nat.le_succ i) HLc.out)
                   clear hh4 hc4)
                | (go_at_call 15; refine (state_all _ HP4.out.all 1 (by unfold inR; omega)).mono ?_; rw [HOpn.out.1, show ((mget [((1 : Int), e')] 1).map (·.E.state)).getD 0 = e'.E.state from rfl]; rintro e0 w5 ⟨rfl, rfl⟩))
              have hab0 : ab' = 0 := by have h1 := HAb.out; have h2 := HOpn.out.2.2; omega
              have hP4 := HP4.out
              rw [HOpn.out.1, hab0] at hP4
              exact ⟨⟨i + 1, true, yes, _, com', e', by go_num, by omega, by omega, hP4, HOpn.out.2.1⟩, meas_step (by omega)⟩
            · have HGn := Lib.hid (And.intro hL hgone)
              clear hL hgone
              go_wp2_with (first
                | (go_at_call 42; refine HLis.out.mono ?_; rintro e0 w4 ⟨rfl, hh4, hc4⟩
                   have HP4 := Lib.hid (HP3.out.hears hc4 hh4 (Nat.le_succ i) HLc.out)
                   have HHd := Lib.hid hh4
                   have h0 : w4.cell? ⟨hb, 0, none⟩ = some (.bool true) := cell_of_block HHd.out rfl
                   have h1 : w4.cell? ⟨hb, 1, none⟩ = some (.bool false) := cell_of_block HHd.out rfl
                   have h2 : w4.cell? ⟨hb, 2, none⟩ = some (.slice oy yes.length cy) := cell_of_block HHd.out rfl
                   have h3 : w4.cell? ⟨hb, 3, none⟩ = some (.int .i64 (com')) := cell_of_block HHd.out rfl
                   have h4 : w4.cell? ⟨hb, 4, none⟩ = some (.int .i64 (ab')) := cell_of_block HHd.out rfl
                   have h5 : w4.cell? ⟨hb, 5, none⟩ = some (.int .i64 0) := cell_of_block HHd.out rfl
                   have HRt := Lib.hid (heard_to HP4.out.res rfl true oy yes.length cy com' ab' 0)
                   clear hh4 hc4)
                | (go_at_call 15; refine (state_all _ HP4.out.all 1 (by unfold inR; omega)).mono ?_; rw [HGn.out.1, show ((mget ([] : List (Int × Ent)) 1).map (·.E.state)).getD 0 = 0 from rfl]; rintro e0 w5 ⟨rfl, rfl⟩)
                | (refine wpList_store_mid rfl 47 _ _ rfl (W.heap.size + 1) 0 (heardC true (.slice oy yes.length cy) com' ab' 0) rfl rfl HRt.out.there HRt.out.size HRt.out.one ?_))
              (try simp only [Exit.inBlock, Exit.then])
              refine bodyPost_ret (results3 rfl _ rfl HRt.out.load) rfl ?_
              have hpst : PSt n true yes ab' L' := by
                rw [HGn.out.1]
                exact PSt.gone (fun hS => by have h1 := HAb.out; have h2 := HGn.out.2 (by first | exact hS | trivial); omega)
              exact ⟨c, true, yes, _, _, _, com', ab', Fc, q, L', rfl, HP4.out.all.kept HRt.out.chg (fun b hf e1 => by have := (HP4.out.foot b hf).1; omega), hpst, HP4.out.chg.new HRt.out.chg (fun b e1 => by omega)⟩
          · obtain ⟨w3, hw3⟩ : ∃ w3, w3 = w5 := ⟨_, rfl⟩
            subst hw3
            have HRows := Lib.hid (rows_of_own HT.out.1)
            have HT2 := Lib.hid HT.out.2
            have HNb := Lib.hid (show ∀ b off, ov = some ⟨b, off, none⟩ → T ≠ [] → b ≠ hb from fun b off ho hT e1 => by
              have h1 := in_of_own HT.out.1 (F := fun b => hb < b) (fun b hb1 _ => Nat.lt_of_lt_of_le HSz.out hb1) (by rw [List.length_map]; exact fun h => hT (List.eq_nil_of_length_eq_zero h)) b off ho
              omega)
            obtain ⟨com', hcom'⟩ : ∃ com', com + cC ms = com' := ⟨_, rfl⟩
            obtain ⟨ab', hab'⟩ : ∃ ab', 0 + cA n ms = ab' := ⟨_, rfl⟩
            have hea : (0 : Int) + (if true = true then 0 else cC ms) = 0 := by
              by_cases hS : true = true
              · rw [if_pos hS]; rfl
              · rw [if_neg hS, HStep.out.early (Bool.eq_false_iff.2 hS)]; rfl
            have hlc : 0 ≤ com' ∧ com' ≤ 6 * ((i + 1 : Nat) : Int) := by
              have h1 := cC_le ms
              have h2 := HStep.out.len
              have h3 := HCom.out
              omega
            have hTl : T.length ≤ 10000 := by
              have h1 := congrArg List.length HT2.out.1
              rw [List.length_map] at h1
              have h2 := HStep.out.len
              omega
            have hlis := listen_any w3 hb W.heap.size n true (.slice oy yes.length cy) com 0 0 T ov cv HP3.out.heard (cell_of_block HP3.out.ncell rfl) (by have := HP3.out.hbW; omega) HRows.out HT2.out.2 HNb.out hTl (by have := HCom.out; omega) (by omega) (by omega)
            rw [HT2.out.1, hcom', hab', hea] at hlis
            have HLis := Lib.hid hlis
            have HAb := Lib.hid hab'
            have HLc := Lib.hid hlc
            clear hlis hcom' hea hlc hTl hab'
            rcases HStep.out.next with ⟨e', hL, hO', hcA⟩ | ⟨hL, hgone⟩
            · have HOpn := Lib.hid (And.intro hL (And.intro hO' hcA))
              have hok' : e'.E.state = 1 ∨ e'.E.state = 2 ∨ e'.E.state = 3 := (HP3.out.all.ok (1, e') (by rw [hL]; simp)).state
              have hs0 : (e'.E.state == 0) = false := by simp; omega
              clear hL hO' hcA hok'
              go_wp2_with (first
                | (go_at_call 42; refine HLis.out.mono ?_; rintro e0 w4 ⟨rfl, hh4, hc4⟩
                   have HP4 := Lib.hid (HP3.out.hears hc4 hh4 (Nat.le_succ i) HLc.out)
                   clear hh4 hc4)
                | (go_at_call 15; refine (state_all _ HP4.out.all 1 (by unfold inR; omega)).mono ?_; rw [HOpn.out.1, show ((mget [((1 : Int), e')] 1).map (·.E.state)).getD 0 = e'.E.state from rfl]; rintro e0 w5 ⟨rfl, rfl⟩))
              have hab0 : ab' = 0 := by have h1 := HAb.out; have h2 := HOpn.out.2.2; omega
              have hP4 := HP4.out
              rw [HOpn.out.1, hab0] at hP4
              exact ⟨⟨i + 1, true, yes, _, com', e', by go_num, by omega, by omega, hP4, HOpn.out.2.1⟩, meas_step (by omega)⟩
            · have HGn := Lib.hid (And.intro hL hgone)
              clear hL hgone
              go_wp2_with (first
                | (go_at_call 42; refine HLis.out.mono ?_; rintro e0 w4 ⟨rfl, hh4, hc4⟩
                   have HP4 := Lib.hid (HP3.out.hears hc4 hh4 (Nat.le_succ i) HLc.out)
                   have HHd := Lib.hid hh4
                   have h0 : w4.cell? ⟨hb, 0, none⟩ = some (.bool true) := cell_of_block HHd.out rfl
                   have h1 : w4.cell? ⟨hb, 1, none⟩ = some (.bool false) := cell_of_block HHd.out rfl
                   have h2 : w4.cell? ⟨hb, 2, none⟩ = some (.slice oy yes.length cy) := cell_of_block HHd.out rfl
                   have h3 : w4.cell? ⟨hb, 3, none⟩ = some (.int .i64 (com')) := cell_of_block HHd.out rfl
                   have h4 : w4.cell? ⟨hb, 4, none⟩ = some (.int .i64 (ab')) := cell_of_block HHd.out rfl
                   have h5 : w4.cell? ⟨hb, 5, none⟩ = some (.int .i64 0) := cell_of_block HHd.out rfl
                   have HRt := Lib.hid (heard_to HP4.out.res rfl true oy yes.length cy com' ab' 0)
                   clear hh4 hc4)
                | (go_at_call 15; refine (state_all _ HP4.out.all 1 (by unfold inR; omega)).mono ?_; rw [HGn.out.1, show ((mget ([] : List (Int × Ent)) 1).map (·.E.state)).getD 0 = 0 from rfl]; rintro e0 w5 ⟨rfl, rfl⟩)
                | (refine wpList_store_mid rfl 47 _ _ rfl (W.heap.size + 1) 0 (heardC true (.slice oy yes.length cy) com' ab' 0) rfl rfl HRt.out.there HRt.out.size HRt.out.one ?_))
              (try simp only [Exit.inBlock, Exit.then])
              refine bodyPost_ret (results3 rfl _ rfl HRt.out.load) rfl ?_
              have hpst : PSt n true yes ab' L' := by
                rw [HGn.out.1]
                exact PSt.gone (fun hS => by have h1 := HAb.out; have h2 := HGn.out.2 (by first | exact hS | trivial); omega)
              exact ⟨c, true, yes, _, _, _, com', ab', Fc, q, L', rfl, HP4.out.all.kept HRt.out.chg (fun b hf e1 => by have := (HP4.out.foot b hf).1; omega), hpst, HP4.out.chg.new HRt.out.chg (fun b e1 => by omega)⟩
        · rw [show (S || decide ((11 : Int) = 0)) = S from by simp] at hstep
          have HStep := Lib.hid hstep
          clear hstep
          have s0 : w3.cell? ⟨hb, 0, none⟩ = some (.bool S) := cell_of_block HD3.out rfl
          have z0 : w3.frozen? ⟨hb, 0, none⟩ = false := free_of_block HD3.out
          have hcs : Chg (· = hb) w3 (w3.setCell ⟨hb, 0, none⟩ (.bool S)) := Chg.setCell (S := (· = hb)) (Chg.refl _ _) (fun _ => rfl) _
          have hbs : (w3.setCell ⟨hb, 0, none⟩ (.bool S)).heap[hb]? = some (.cells (heardC S (.slice oy yes.length cy) com 0 0) 47 (0, 0)) := by rw [block_setCell HD3.out]; rfl
          have hT5 := OwnRecs.kept HT.out.1 hcs (fun b hb1 e1 => by have h1 := (HT.out.1.lt hb1).1; have h2 := HSz.out; omega)
          have hP5 := HP3.out.hears hcs hbs (Nat.le_refl i) HP3.out.com0
          have HT5 := Lib.hid (And.intro hT5 HT.out.2)
          have HP5 := Lib.hid hP5
          clear hcs hbs hT5 hP5
          cases S
          · go_wp2_with (first
              | (go_at_call 42; fail))
            obtain ⟨w5, hw5⟩ : ∃ w5, w3.setCell ⟨hb, 0, none⟩ (.bool false) = w5 := ⟨_, rfl⟩
            rw [hw5] at HT5 HP5 ⊢
            clear s0 z0 hw5 HP3 HT HD3
            have HP3 := HP5
            have HT := HT5
            clear HP5 HT5
            obtain ⟨w3, hw3⟩ : ∃ w3, w3 = w5 := ⟨_, rfl⟩
            subst hw3
            have HRows := Lib.hid (rows_of_own HT.out.1)
            have HT2 := Lib.hid HT.out.2
            have HNb := Lib.hid (show ∀ b off, ov = some ⟨b, off, none⟩ → T ≠ [] → b ≠ hb from fun b off ho hT e1 => by
              have h1 := in_of_own HT.out.1 (F := fun b => hb < b) (fun b hb1 _ => Nat.lt_of_lt_of_le HSz.out hb1) (by rw [List.length_map]; exact fun h => hT (List.eq_nil_of_length_eq_zero h)) b off ho
              omega)
            obtain ⟨com', hcom'⟩ : ∃ com', com + cC ms = com' := ⟨_, rfl⟩
            obtain ⟨ab', hab'⟩ : ∃ ab', 0 + cA n ms = ab' := ⟨_, rfl⟩
            have hea : (0 : Int) + (if false = true then 0 else cC ms) = 0 := by
              by_cases hS : false = true
              · rw [if_pos hS]; rfl
              · rw [if_neg hS, HStep.out.early (Bool.eq_false_iff.2 hS)]; rfl
            have hlc : 0 ≤ com' ∧ com' ≤ 6 * ((i + 1 : Nat) : Int) := by
              have h1 := cC_le ms
              have h2 := HStep.out.len
              have h3 := HCom.out
              omega
            have hTl : T.length ≤ 10000 := by
              have h1 := congrArg List.length HT2.out.1
              rw [List.length_map] at h1
              have h2 := HStep.out.len
              omega
            have hlis := listen_any w3 hb W.heap.size n false (.slice oy yes.length cy) com 0 0 T ov cv HP3.out.heard (cell_of_block HP3.out.ncell rfl) (by have := HP3.out.hbW; omega) HRows.out HT2.out.2 HNb.out hTl (by have := HCom.out; omega) (by omega) (by omega)
            rw [HT2.out.1, hcom', hab', hea] at hlis
            have HLis := Lib.hid hlis
            have HAb := Lib.hid hab'
            have HLc := Lib.hid hlc
            clear hlis hcom' hea hlc hTl hab'
            rcases HStep.out.next with ⟨e', hL, hO', hcA⟩ | ⟨hL, hgone⟩
            · have HOpn := Lib.hid (And.intro hL (And.intro hO' hcA))
              have hok' : e'.E.state = 1 ∨ e'.E.state = 2 ∨ e'.E.state = 3 := (HP3.out.all.ok (1, e') (by rw [hL]; simp)).state
              have hs0 : (e'.E.state == 0) = false := by simp; omega
              clear hL hO' hcA hok'
              go_wp2_with (first
                | (go_at_call 42; refine HLis.out.mono ?_; rintro e0 w4 ⟨rfl, hh4, hc4⟩
                   have HP4 := Lib.hid (HP3.out.hears hc4 hh4 (Nat.le_succ i) HLc.out)
                   clear hh4 hc4)
                | (go_at_call 15; refine (state_all _ HP4.out.all 1 (by unfold inR; omega)).mono ?_; rw [HOpn.out.1, show ((mget [((1 : Int), e')] 1).map (·.E.state)).getD 0 = e'.E.state from rfl]; rintro e0 w5 ⟨rfl, rfl⟩))
              have hab0 : ab' = 0 := by have h1 := HAb.out; have h2 := HOpn.out.2.2; omega
              have hP4 := HP4.out
              rw [HOpn.out.1, hab0] at hP4
              exact ⟨⟨i + 1, false, yes, _, com', e', by go_num, by omega, by omega, hP4, HOpn.out.2.1⟩, meas_step (by omega)⟩
            · have HGn := Lib.hid (And.intro hL hgone)
              clear hL hgone
              go_wp2_with (first
                | (go_at_call 42; refine HLis.out.mono ?_; rintro e0 w4 ⟨rfl, hh4, hc4⟩
                   have HP4 := Lib.hid (HP3.out.hears hc4 hh4 (Nat.le_succ i) HLc.out)
                   have HHd := Lib.hid hh4
                   have h0 : w4.cell? ⟨hb, 0, none⟩ = some (.bool false) := cell_of_block HHd.out rfl
                   have h1 : w4.cell? ⟨hb, 1, none⟩ = some (.bool false) := cell_of_block HHd.out rfl
                   have h2 : w4.cell? ⟨hb, 2, none⟩ = some (.slice oy yes.length cy) := cell_of_block HHd.out rfl
                   have h3 : w4.cell? ⟨hb, 3, none⟩ = some (.int .i64 (com')) := cell_of_block HHd.out rfl
                   have h4 : w4.cell? ⟨hb, 4, none⟩ = some (.int .i64 (ab')) := cell_of_block HHd.out rfl
                   have h5 : w4.cell? ⟨hb, 5, none⟩ = some (.int .i64 0) := cell_of_block HHd.out rfl
                   have HRt := Lib.hid (heard_to HP4.out.res rfl false oy yes.length cy com' ab' 0)
                   clear hh4 hc4)
                | (go_at_call 15; refine (state_all _ HP4.out.all 1 (by unfold inR; omega)).mono ?_; rw [HGn.out.1, show ((mget ([] : List (Int × Ent)) 1).map (·.E.state)).getD 0 = 0 from rfl]; rintro e0 w5 ⟨rfl, rfl⟩)
                | (refine wpList_store_mid rfl 47 _ _ rfl (W.heap.size + 1) 0 (heardC false (.slice oy yes.length cy) com' ab' 0) rfl rfl HRt.out.there HRt.out.size HRt.out.one ?_))
              (try simp only [Exit.inBlock, Exit.then])
              refine bodyPost_ret (results3 rfl _ rfl HRt.out.load) rfl ?_
              have hpst : PSt n false yes ab' L' := by
                rw [HGn.out.1]
                exact PSt.gone (fun hS => by have h1 := HAb.out; have h2 := HGn.out.2 (by first | exact hS | trivial); omega)
              exact ⟨c, false, yes, _, _, _, com', ab', Fc, q, L', rfl, HP4.out.all.kept HRt.out.chg (fun b hf e1 => by have := (HP4.out.foot b hf).1; omega), hpst, HP4.out.chg.new HRt.out.chg (fun b e1 => by omega)⟩
          · go_wp2_with (first
              | (go_at_call 42; fail))
            obtain ⟨w5, hw5⟩ : ∃ w5, w3.setCell ⟨hb, 0, none⟩ (.bool true) = w5 := ⟨_, rfl⟩
            rw [hw5] at HT5 HP5 ⊢
            clear s0 z0 hw5 HP3 HT HD3
            have HP3 := HP5
            have HT := HT5
            clear HP5 HT5
            obtain ⟨w3, hw3⟩ : ∃ w3, w3 = w5 := ⟨_, rfl⟩
            subst hw3
            have HRows := Lib.hid (rows_of_own HT.out.1)
            have HT2 := Lib.hid HT.out.2
            have HNb := Lib.hid (show ∀ b off, ov = some ⟨b, off, none⟩ → T ≠ [] → b ≠ hb from fun b off ho hT e1 => by
              have h1 := in_of_own HT.out.1 (F := fun b => hb < b) (fun b hb1 _ => Nat.lt_of_lt_of_le HSz.out hb1) (by rw [List.length_map]; exact fun h => hT (List.eq_nil_of_length_eq_zero h)) b off ho
              omega)
            obtain ⟨com', hcom'⟩ : ∃ com', com + cC ms = com' := ⟨_, rfl⟩
            obtain ⟨ab', hab'⟩ : ∃ ab', 0 + cA n ms = ab' := ⟨_, rfl⟩
            have hea : (0 : Int) + (if true = true then 0 else cC ms) = 0 := by
              by_cases hS : true = true
              · rw [if_pos hS]; rfl
              · rw [if_neg hS, HStep.out.early (Bool.eq_false_iff.2 hS)]; rfl
            have hlc : 0 ≤ com' ∧ com' ≤ 6 * ((i + 1 : Nat) : Int) := by
              have h1 := cC_le ms
              have h2 := HStep.out.len
              have h3 := HCom.out
              omega
            have hTl : T.length ≤ 10000 := by
              have h1 := congrArg List.length HT2.out.1
              rw [List.length_map] at h1
              have h2 := HStep.out.len
              omega
            have hlis := listen_any w3 hb W.heap.size n true (.slice oy yes.length cy) com 0 0 T ov cv HP3.out.heard (cell_of_block HP3.out.ncell rfl) (by have := HP3.out.hbW; omega) HRows.out HT2.out.2 HNb.out hTl (by have := HCom.out; omega) (by omega) (by omega)
            rw [HT2.out.1, hcom', hab', hea] at hlis
            have HLis := Lib.hid hlis
            have HAb := Lib.hid hab'
            have HLc := Lib.hid hlc
            clear hlis hcom' hea hlc hTl hab'
            rcases HStep.out.next with ⟨e', hL, hO', hcA⟩ | ⟨hL, hgone⟩
            · have HOpn := Lib.hid (And.intro hL (And.intro hO' hcA))
              have hok' : e'.E.state = 1 ∨ e'.E.state = 2 ∨ e'.E.state = 3 := (HP3.out.all.ok (1, e') (by rw [hL]; simp)).state
              have hs0 : (e'.E.state == 0) = false := by simp; omega
              clear hL hO' hcA hok'
              go_wp2_with (first
                | (go_at_call 42; refine HLis.out.mono ?_; rintro e0 w4 ⟨rfl, hh4, hc4⟩
                   have HP4 := Lib.hid (HP3.out.hears hc4 hh4 (Nat.le_succ i) HLc.out)
                   clear hh4 hc4)
                | (go_at_call 15; refine (state_all _ HP4.out.all 1 (by unfold inR; omega)).mono ?_; rw [HOpn.out.1, show ((mget [((1 : Int), e')] 1).map (·.E.state)).getD 0 = e'.E.state from rfl]; rintro e0 w5 ⟨rfl, rfl⟩))
              have hab0 : ab' = 0 := by have h1 := HAb.out; have h2 := HOpn.out.2.2; omega
              have hP4 := HP4.out
              rw [HOpn.out.1, hab0] at hP4
              exact ⟨⟨i + 1, true, yes, _, com', e', by go_num, by omega, by omega, hP4, HOpn.out.2.1⟩, meas_step (by omega)⟩
            · have HGn := Lib.hid (And.intro hL hgone)
              clear hL hgone
              go_wp2_with (first
                | (go_at_call 42; refine HLis.out.mono ?_; rintro e0 w4 ⟨rfl, hh4, hc4⟩
                   have HP4 := Lib.hid (HP3.out.hears hc4 hh4 (Nat.le_succ i) HLc.out)
                   have HHd := Lib.hid hh4
                   have h0 : w4.cell? ⟨hb, 0, none⟩ = some (.bool true) := cell_of_block HHd.out rfl
                   have h1 : w4.cell? ⟨hb, 1, none⟩ = some (.bool false) := cell_of_block HHd.out rfl
                   have h2 : w4.cell? ⟨hb, 2, none⟩ = some (.slice oy yes.length cy) := cell_of_block HHd.out rfl
                   have h3 : w4.cell? ⟨hb, 3, none⟩ = some (.int .i64 (com')) := cell_of_block HHd.out rfl
                   have h4 : w4.cell? ⟨hb, 4, none⟩ = some (.int .i64 (ab')) := cell_of_block HHd.out rfl
                   have h5 : w4.cell? ⟨hb, 5, none⟩ = some (.int .i64 0) := cell_of_block HHd.out rfl
                   have HRt := Lib.hid (heard_to HP4.out.res rfl true oy yes.length cy com' ab' 0)
                   clear hh4 hc4)
                | (go_at_call 15; refine (state_all _ HP4.out.all 1 (by unfold inR; omega)).mono ?_; rw [HGn.out.1, show ((mget ([] : List (Int × Ent)) 1).map (·.E.state)).getD 0 = 0 from rfl]; rintro e0 w5 ⟨rfl, rfl⟩)
                | (refine wpList_store_mid rfl 47 _ _ rfl (W.heap.size + 1) 0 (heardC true (.slice oy yes.length cy) com' ab' 0) rfl rfl HRt.out.there HRt.out.size HRt.out.one ?_))
              (try simp only [Exit.inBlock, Exit.then])
              refine bodyPost_ret (results3 rfl _ rfl HRt.out.load) rfl ?_
              have hpst : PSt n true yes ab' L' := by
                rw [HGn.out.1]
                exact PSt.gone (fun hS => by have h1 := HAb.out; have h2 := HGn.out.2 (by first | exact hS | trivial); omega)
              exact ⟨c, true, yes, _, _, _, com', ab', Fc, q, L', rfl, HP4.out.all.kept HRt.out.chg (fun b hf e1 => by have := (HP4.out.foot b hf).1; omega), hpst, HP4.out.chg.new HRt.out.chg (fun b e1 => by omega)⟩
      · have hk3 : (k == 3) = false := by simp [k3]
        by_cases k4 : k = 4
        · subst k4
          clear k2 k3 hk2 hk3
          go_wp2_with (first
            | (go_at_call 30; refine (quit_all _ HPa.out.all 1 (by unfold inR; omega)).mono ?_; rintro e0 w3 ⟨v3, nn, ms, L', rfl, ho3, hq3, ha3, hc3⟩
               obtain ⟨T, hT1, hT2, hT3⟩ := ho3.is
               obtain ⟨ov, cv, hv3, -⟩ := hT1.slice
               rw [List.length_map] at hv3
               subst hv3
               have HT := Lib.hid (And.intro hT1 (And.intro hT2 hT3))
               have HStep := Lib.hid (quit_step HO.out HN.out.2 hq3)
               have HP3 := Lib.hid (HPa.out.call hc3 ha3 (fun b hf => Or.inl (foot_quit hq3 b hf)))
               have HSz := Lib.hid (show hb < (wr.alloc (.cells #[.int .i64 4, .int .i64 tx, .slice oap pl.length capp, .int .i64 kd, .int .i64 f, .int .i64 t, .int .i64 mt, .bool y, .slice oa ps.length cap] 61)).heap.size from by have := HHb.out; rw [World.size_alloc]; omega)
               clear ho3 hT1 hT2 hT3 hq3 ha3 hc3)
            | (go_at_call 42; fail))
          have HRows := Lib.hid (rows_of_own HT.out.1)
          have HT2 := Lib.hid HT.out.2
          have HNb := Lib.hid (show ∀ b off, ov = some ⟨b, off, none⟩ → T ≠ [] → b ≠ hb from fun b off ho hT e1 => by
            have h1 := in_of_own HT.out.1 (F := fun b => hb < b) (fun b hb1 _ => Nat.lt_of_lt_of_le HSz.out hb1) (by rw [List.length_map]; exact fun h => hT (List.eq_nil_of_length_eq_zero h)) b off ho
            omega)
          obtain ⟨com', hcom'⟩ : ∃ com', com + cC ms = com' := ⟨_, rfl⟩
          obtain ⟨ab', hab'⟩ : ∃ ab', 0 + cA n ms = ab' := ⟨_, rfl⟩
          have hea : (0 : Int) + (if S = true then 0 else cC ms) = 0 := by
            by_cases hS : S = true
            · rw [if_pos hS]; rfl
            · rw [if_neg hS, HStep.out.early (Bool.eq_false_iff.2 hS)]; rfl
          have hlc : 0 ≤ com' ∧ com' ≤ 6 * ((i + 1 : Nat) : Int) := by
            have h1 := cC_le ms
            have h2 := HStep.out.len
            have h3 := HCom.out
            omega
          have hTl : T.length ≤ 10000 := by
            have h1 := congrArg List.length HT2.out.1
            rw [List.length_map] at h1
            have h2 := HStep.out.len
            omega
          have hlis := listen_any w3 hb W.heap.size n S (.slice oy yes.length cy) com 0 0 T ov cv HP3.out.heard (cell_of_block HP3.out.ncell rfl) (by have := HP3.out.hbW; omega) HRows.out HT2.out.2 HNb.out hTl (by have := HCom.out; omega) (by omega) (by omega)
          rw [HT2.out.1, hcom', hab', hea] at hlis
          have HLis := Lib.hid hlis
          have HAb := Lib.hid hab'
          have HLc := Lib.hid hlc
          clear hlis hcom' hea hlc hTl hab'
          rcases HStep.out.next with ⟨e', hL, hO', hcA⟩ | ⟨hL, hgone⟩
          · have HOpn := Lib.hid (And.intro hL (And.intro hO' hcA))
            have hok' : e'.E.state = 1 ∨ e'.E.state = 2 ∨ e'.E.state = 3 := (HP3.out.all.ok (1, e') (by rw [hL]; simp)).state
            have hs0 : (e'.E.state == 0) = false := by simp; omega
            clear hL hO' hcA hok'
            go_wp2_with (first
              | (go_at_call 42; refine HLis.out.mono ?_; rintro e0 w4 ⟨rfl, hh4, hc4⟩
                 have HP4 := Lib.hid (HP3.out.hears hc4 hh4 (Nat.le_succ i) HLc.out)
                 clear hh4 hc4)
              | (go_at_call 15; refine (state_all _ HP4.out.all 1 (by unfold inR; omega)).mono ?_; rw [HOpn.out.1, show ((mget [((1 : Int), e')] 1).map (·.E.state)).getD 0 = e'.E.state from rfl]; rintro e0 w5 ⟨rfl, rfl⟩))
            have hab0 : ab' = 0 := by have h1 := HAb.out; have h2 := HOpn.out.2.2; omega
            have hP4 := HP4.out
            rw [HOpn.out.1, hab0] at hP4
            exact ⟨⟨i + 1, S, yes, _, com', e', by go_num, by omega, by omega, hP4, HOpn.out.2.1⟩, meas_step (by omega)⟩
          · have HGn := Lib.hid (And.intro hL hgone)
            clear hL hgone
            go_wp2_with (first
              | (go_at_call 42; refine HLis.out.mono ?_; rintro e0 w4 ⟨rfl, hh4, hc4⟩
                 have HP4 := Lib.hid (HP3.out.hears hc4 hh4 (Nat.le_succ i) HLc.out)
                 have HHd := Lib.hid hh4
                 have h0 : w4.cell? ⟨hb, 0, none⟩ = some (.bool S) := cell_of_block HHd.out rfl
                 have h1 : w4.cell? ⟨hb, 1, none⟩ = some (.bool false) := cell_of_block HHd.out rfl
                 have h2 : w4.cell? ⟨hb, 2, none⟩ = some (.slice oy yes.length cy) := cell_of_block HHd.out rfl
                 have h3 : w4.cell? ⟨hb, 3, none⟩ = some (.int .i64 (com')) := cell_of_block HHd.out rfl
                 have h4 : w4.cell? ⟨hb, 4, none⟩ = some (.int .i64 (ab')) := cell_of_block HHd.out rfl
                 have h5 : w4.cell? ⟨hb, 5, none⟩ = some (.int .i64 0) := cell_of_block HHd.out rfl
                 have HRt := Lib.hid (heard_to HP4.out.res rfl S oy yes.length cy com' ab' 0)
                 clear hh4 hc4)
              | (go_at_call 15; refine (state_all _ HP4.out.all 1 (by unfold inR; omega)).mono ?_; rw [HGn.out.1, show ((mget ([] : List (Int × Ent)) 1).map (·.E.state)).getD 0 = 0 from rfl]; rintro e0 w5 ⟨rfl, rfl⟩)
              | (refine wpList_store_mid rfl 47 _ _ rfl (W.heap.size + 1) 0 (heardC S (.slice oy yes.length cy) com' ab' 0) rfl rfl HRt.out.there HRt.out.size HRt.out.one ?_))
            (try simp only [Exit.inBlock, Exit.then])
            refine bodyPost_ret (results3 rfl _ rfl HRt.out.load) rfl ?_
            have hpst : PSt n S yes ab' L' := by
              rw [HGn.out.1]
              exact PSt.gone (fun hS => by have h1 := HAb.out; have h2 := HGn.out.2 (by first | exact hS | trivial); omega)
            exact ⟨c, S, yes, _, _, _, com', ab', Fc, q, L', rfl, HP4.out.all.kept HRt.out.chg (fun b hf e1 => by have := (HP4.out.foot b hf).1; omega), hpst, HP4.out.chg.new HRt.out.chg (fun b e1 => by omega)⟩
        · have hk4 : (k == 4) = false := by simp [k4]
          by_cases k5 : k = 5
          · subst k5
            clear k2 k3 k4 hk2 hk3 hk4
            go_wp2_with (first
              | (go_at_call 22; refine (tick_all _ HPa.out.all (by simp)).mono ?_; rintro e0 w3 ⟨v3, g3, rfl, ho3, ha3, hc3⟩
                 have hstep := tick_step HO.out HN.out.2 lim
                 obtain ⟨ms, hms⟩ : ∃ ms, (asc ([((1 : Int), e)].map (·.1))).flatMap (tickA lim [(1, e)]) = ms := ⟨_, rfl⟩
                 obtain ⟨L', hL'⟩ : ∃ L', tickK lim ([((1 : Int), e)].map (·.1)) [(1, e)] = L' := ⟨_, rfl⟩
                 rw [hms, hL'] at hstep
                 rw [hms] at ho3
                 rw [hL'] at ha3
                 obtain ⟨T, hT1, hT2, hT3⟩ := ho3.is
                 obtain ⟨ov, cv, hv3, -⟩ := hT1.slice
                 rw [List.length_map] at hv3
                 subst hv3
                 have HT := Lib.hid (And.intro hT1 (And.intro hT2 hT3))
                 have HStep := Lib.hid hstep
                 have HP3 := Lib.hid (HPa.out.call hc3 ha3 (fun b hf => Or.inl (foot_tick b (by rw [← hL'] at hf; exact hf))))
                 have HSz := Lib.hid (show hb < (wr.alloc (.cells #[.int .i64 5, .int .i64 tx, .slice oap pl.length capp, .int .i64 kd, .int .i64 f, .int .i64 t, .int .i64 mt, .bool y, .slice oa ps.length cap] 61)).heap.size from by have := HHb.out; rw [World.size_alloc]; omega)
                 clear ho3 hT1 hT2 hT3 ha3 hc3 hstep hms hL')
              | (go_at_call 42; fail))
            have HRows := Lib.hid (rows_of_own HT.out.1)
            have HT2 := Lib.hid HT.out.2
            have HNb := Lib.hid (show ∀ b off, ov = some ⟨b, off, none⟩ → T ≠ [] → b ≠ hb from fun b off ho hT e1 => by
              have h1 := in_of_own HT.out.1 (F := fun b => hb < b) (fun b hb1 _ => Nat.lt_of_lt_of_le HSz.out hb1) (by rw [List.length_map]; exact fun h => hT (List.eq_nil_of_length_eq_zero h)) b off ho
              omega)
            obtain ⟨com', hcom'⟩ : ∃ com', com + cC ms = com' := ⟨_, rfl⟩
            obtain ⟨ab', hab'⟩ : ∃ ab', 0 + cA n ms = ab' := ⟨_, rfl⟩
            have hea : (0 : Int) + (if S = true then 0 else cC ms) = 0 := by
              by_cases hS : S = true
              · rw [if_pos hS]; rfl
              · rw [if_neg hS, HStep.out.early (Bool.eq_false_iff.2 hS)]; rfl
            have hlc : 0 ≤ com' ∧ com' ≤ 6 * ((i + 1 : Nat) : Int) := by
              have h1 := cC_le ms
              have h2 := HStep.out.len
              have h3 := HCom.out
              omega
            have hTl : T.length ≤ 10000 := by
              have h1 := congrArg List.length HT2.out.1
              rw [List.length_map] at h1
              have h2 := HStep.out.len
              omega
            have hlis := listen_any w3 hb W.heap.size n S (.slice oy yes.length cy) com 0 0 T ov cv HP3.out.heard (cell_of_block HP3.out.ncell rfl) (by have := HP3.out.hbW; omega) HRows.out HT2.out.2 HNb.out hTl (by have := HCom.out; omega) (by omega) (by omega)
            rw [HT2.out.1, hcom', hab', hea] at hlis
            have HLis := Lib.hid hlis
            have HAb := Lib.hid hab'
            have HLc := Lib.hid hlc
            clear hlis hcom' hea hlc hTl hab'
            rcases HStep.out.next with ⟨e', hL, hO', hcA⟩ | ⟨hL, hgone⟩
            · have HOpn := Lib.hid (And.intro hL (And.intro hO' hcA))
              have hok' : e'.E.state = 1 ∨ e'.E.state = 2 ∨ e'.E.state = 3 := (HP3.out.all.ok (1, e') (by rw [hL]; simp)).state
              have hs0 : (e'.E.state == 0) = false := by simp; omega
              clear hL hO' hcA hok'
              go_wp2_with (first
                | (go_at_call 42; refine HLis.out.mono ?_; rintro e0 w4 ⟨rfl, hh4, hc4⟩
                   have HP4 := Lib.hid (HP3.out.hears hc4 hh4 (Nat.le_succ i) HLc.out)
                   clear hh4 hc4)
                | (go_at_call 15; refine (state_all _ HP4.out.all 1 (by unfold inR; omega)).mono ?_; rw [HOpn.out.1, show ((mget [((1 : Int), e')] 1).map (·.E.state)).getD 0 = e'.E.state from rfl]; rintro e0 w5 ⟨rfl, rfl⟩))
              have hab0 : ab' = 0 := by have h1 := HAb.out; have h2 := HOpn.out.2.2; omega
              have hP4 := HP4.out
              rw [HOpn.out.1, hab0] at hP4
              exact ⟨⟨i + 1, S, yes, _, com', e', by go_num, by omega, by omega, hP4, HOpn.out.2.1⟩, meas_step (by omega)⟩
            · have HGn := Lib.hid (And.intro hL hgone)
              clear hL hgone
              go_wp2_with (first
                | (go_at_call 42; refine HLis.out.mono ?_; rintro e0 w4 ⟨rfl, hh4, hc4⟩
                   have HP4 := Lib.hid (HP3.out.hears hc4 hh4 (Nat.le_succ i) HLc.out)
                   have HHd := Lib.hid hh4
                   have h0 : w4.cell? ⟨hb, 0, none⟩ = some (.bool S) := cell_of_block HHd.out rfl
                   have h1 : w4.cell? ⟨hb, 1, none⟩ = some (.bool false) := cell_of_block HHd.out rfl
                   have h2 : w4.cell? ⟨hb, 2, none⟩ = some (.slice oy yes.length cy) := cell_of_block HHd.out rfl
                   have h3 : w4.cell? ⟨hb, 3, none⟩ = some (.int .i64 (com')) := cell_of_block HHd.out rfl
                   have h4 : w4.cell? ⟨hb, 4, none⟩ = some (.int .i64 (ab')) := cell_of_block HHd.out rfl
                   have h5 : w4.cell? ⟨hb, 5, none⟩ = some (.int .i64 0) := cell_of_block HHd.out rfl
                   have HRt := Lib.hid (heard_to HP4.out.res rfl S oy yes.length cy com' ab' 0)
                   clear hh4 hc4)
                | (go_at_call 15; refine (state_all _ HP4.out.all 1 (by unfold inR; omega)).mono ?_; rw [HGn.out.1, show ((mget ([] : List (Int × Ent)) 1).map (·.E.state)).getD 0 = 0 from rfl]; rintro e0 w5 ⟨rfl, rfl⟩)
                | (refine wpList_store_mid rfl 47 _ _ rfl (W.heap.size + 1) 0 (heardC S (.slice oy yes.length cy) com' ab' 0) rfl rfl HRt.out.there HRt.out.size HRt.out.one ?_))
              (try simp only [Exit.inBlock, Exit.then])
              refine bodyPost_ret (results3 rfl _ rfl HRt.out.load) rfl ?_
              have hpst : PSt n S yes ab' L' := by
                rw [HGn.out.1]
                exact PSt.gone (fun hS => by have h1 := HAb.out; have h2 := HGn.out.2 (by first | exact hS | trivial); omega)
              exact ⟨c, S, yes, _, _, _, com', ab', Fc, q, L', rfl, HP4.out.all.kept HRt.out.chg (fun b hf e1 => by have := (HP4.out.foot b hf).1; omega), hpst, HP4.out.chg.new HRt.out.chg (fun b e1 => by omega)⟩
          · have hk5 : (k == 5) = false := by simp [k5]
            have hs0 : (e.E.state == 0) = false := by have := HSt.out; simp; omega
            clear k2 k3 k4 k5
            go_wp2_with (first
              | (go_at_call 15; refine (state_all _ HPa.out.all 1 (by unfold inR; omega)).mono ?_; rw [show ((mget [((1 : Int), e)] 1).map (·.E.state)).getD 0 = e.E.state from rfl]; rintro e0 w3 ⟨rfl, rfl⟩))
            exact ⟨⟨i + 1, S, yes, _, com, e, by go_num, by omega, by omega, ⟨HPa.out.heard, HPa.out.yesr, Nat.le_succ_of_le HPa.out.ylen, HPa.out.all, ⟨HPa.out.com0.1, by have := HPa.out.com0.2; omega⟩, HPa.out.ncell, HPa.out.res, HPa.out.foot, HPa.out.hbW, HPa.out.chg⟩, HO.out⟩, meas_step (by omega)⟩
  · have hcase : ¬ (i : Int) < (acts.length : Int) ∨ ((i : Int) < (acts.length : Int) ∧ ¬ (i : Int) < 60) := by omega
    obtain ⟨oy, cy, rfl⟩ := own_slice HP.out.yesr
    have HHd := Lib.hid HP.out.heard
    have h0 : wr.cell? ⟨hb, 0, none⟩ = some (.bool S) := cell_of_block HHd.out rfl
    have h1 : wr.cell? ⟨hb, 1, none⟩ = some (.bool false) := cell_of_block HHd.out rfl
    have h2 : wr.cell? ⟨hb, 2, none⟩ = some (.slice oy yes.length cy) := cell_of_block HHd.out rfl
    have h3 : wr.cell? ⟨hb, 3, none⟩ = some (.int .i64 (com)) := cell_of_block HHd.out rfl
    have h4 : wr.cell? ⟨hb, 4, none⟩ = some (.int .i64 (0)) := cell_of_block HHd.out rfl
    have h5 : wr.cell? ⟨hb, 5, none⟩ = some (.int .i64 0) := cell_of_block HHd.out rfl
    have HRt := Lib.hid (heard_to HP.out.res rfl S oy yes.length cy com 0 0)
    clear hlt
    rcases hcase with hc1 | ⟨hc1, hc2⟩
    all_goals go_wp2_with
      (refine wpList_store_mid rfl 47 _ _ rfl (W.heap.size + 1) 0 (heardC S (.slice oy yes.length cy) (com) (0) 0) rfl rfl HRt.out.there HRt.out.size HRt.out.one ?_)
    all_goals (try simp only [Exit.inBlock, Exit.then])
    all_goals refine bodyPost_ret (results3 rfl _ rfl HRt.out.load) rfl ?_
    all_goals refine ⟨c, S, yes, _, _, _, com, 0, Fc, q, _, rfl, HP.out.all.kept HRt.out.chg (fun b hf e1 => by have := (HP.out.foot b hf).1; omega), PSt.opn e HO.out rfl, HP.out.chg.new HRt.out.chg (fun b e1 => by omega)⟩

end Go.Proofs.Ytogjjkbgagedpaa.coordg
