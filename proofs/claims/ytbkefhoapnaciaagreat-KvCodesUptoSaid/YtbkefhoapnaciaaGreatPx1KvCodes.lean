/-
  the document's reading of batches: Decode of veneerref11.
-/
import Derived.Test.YtbkefhoapnaciaaGreatPkAa
import Derived.Test.YtbkefhoapnaciaaGreatPkBd
import Derived.Test.YtbkefhoapnaciaaGreatPkBf
import Derived.Test.YtbkefhoapnaciaaGreatPx0KvCodes
import Derived.JoinedCond

section
set_option linter.unusedSimpArgs false
set_option linter.unusedVariables false
namespace Go.Proofs.YtbkefhoapnaciaaGreat.kvs
open Go.RowKit Go.My disks bufs wals
set_option maxRecDepth 100000

variable {w w' : World}

theorem restF_step {rest : Txt} {c : UInt8} {r : Txt} (h : rest = c :: r) : restF rest.length rest = match putF c r with | none => none | some (p, m) => (restF m.length m).map (p :: ·) := by
  subst h
  rw [List.length_cons, restF]
  cases hp : putF c r with
  | none => rfl
  | some x =>
    obtain ⟨p, m⟩ := x
    have := putF_len hp
    simp only
    rw [restF_fuel r.length m.length m (by omega) (Nat.le_refl _)]

theorem decRF_none {c0 : UInt8} {t0 : Txt} (h : restF t0.length t0 = none) : decRF (c0 :: t0) = none := by
  unfold decRF
  simp only
  rw [h]
theorem decRF_some {c0 : UInt8} {t0 : Txt} {l : List PV} (h : restF t0.length t0 = some l) : decRF (c0 :: t0) = if encF l = (c0 :: t0, 0) then some l else none := by
  unfold decRF
  simp only
  rw [h]
theorem map_push {o : Option (List PV)} {acc : List PV} {p : PV} : (o.map (p :: ·)).map (acc ++ ·) = o.map ((acc ++ [p]) ++ ·) := by
  cases o <;> simp

def strLen : Value → Nat
  | .string s => s.size
  | _ => 0


set_option maxHeartbeats 4000000 in
theorem decodeR_any (w : World) (t : Txt) (ht : t.length ≤ 1048576) :
    Calls Tryz.prog 13 #[strV t] w fun e w' => ∃ v er, e = .returned (.tuple #[v, .int .i64 er]) ∧ DecOut w' w.heap.size v er (decF t) ∧ Chg (fun _ => False) w w' := by
  rw [← decRF_eq]
  obtain ⟨s, hs⟩ : ∃ s : ByteArray, strV t = .string s := ⟨_, rfl⟩
  have hsz := str_size t s hs
  have hst := strV_string t s hs
  rw [hs]
  cases t with
  | nil =>
    have i1 : (s.size : Int) < 1 := by rw [hsz]; simp
    clear hs hst hsz
    go_enter Tryz.func13, Tryz.ntmps13
    go_wp2_with fail
    go_ret2
    exact ⟨_, _, rfl, ⟨rfl, rfl⟩, Chg.refl _ _⟩
  | cons c0 t0 =>
    rw [List.length_cons] at ht
    have i1 : ¬ (s.size : Int) < 1 := by rw [hsz, List.length_cons]; omega
    have i2 : (1 : Int) ≤ (s.size : Int) := by omega
    obtain ⟨s0, hs0⟩ : ∃ x, s.extract 1 (t0.length + 1) = x := ⟨_, rfl⟩
    have e0 : strV t0 = .string s0 := by
      rw [← hs0, Lib.extract_eq, hst]
      simp [strV]
    have hszi : (s.size : Int) = (t0.length : Int) + 1 := by rw [hsz, List.length_cons]; omega
    have E0 := Lib.hid e0
    have HS := Lib.hid (And.intro hs hst)
    clear hs hst e0
    go_enter Tryz.func13, Tryz.ntmps13
    go_wp2_with fail
    clear i1 i2 hszi hs0
    go_loopw [4, 5] (fun u4 u5 wr => ∃ (acc : List PV) (rest : Txt) (sr : ByteArray), u5 = .string sr ∧ strV rest = .string sr ∧ Puts wr w.heap.size u4 acc ∧ acc.length * 2 + rest.length ≤ t0.length ∧ restF t0.length t0 = (restF rest.length rest).map (acc ++ ·) ∧ Chg (fun _ => False) w wr) (fun _ u5 _ => strLen u5)
    · exact ⟨[], t0, s0, rfl, E0.out, OwnRecs.nil _ _ _ _, by simp, by simp, Chg.refl _ _⟩
    obtain ⟨acc, rest, sr, rfl, hsr, hp, hl, hrest, hc⟩ := hrel
    obtain ⟨oa, cap, rfl, -⟩ := hp.slice
    rw [List.length_map] at *
    have HP := Lib.hid hp
    have HC := Lib.hid hc
    have HRs := Lib.hid hrest
    have hrz := str_size rest sr hsr
    have hrst := strV_string rest sr hsr
    have hacc : (acc.length : Int) ≤ 1048576 := by omega
    clear hp hc hrest
    cases rest with
    | nil =>
      have i1 : ¬ (0 : Int) < (sr.size : Int) := by rw [hrz]; simp
      have hra : restF t0.length t0 = some acc := by rw [HRs.out]; simp [restF]
      have hen := encodeR_any wr (puts_putsAt HP.out) (by omega)
      have HRa := Lib.hid hra
      have HEn := Lib.hid hen
      clear hra hen HRs hsr hrst
      obtain ⟨E, hE⟩ : ∃ E, encF acc = E := ⟨_, rfl⟩
      rw [hE] at HEn
      have HE := Lib.hid hE
      clear hE
      obtain ⟨b, n⟩ := E
      simp only at HEn
      obtain ⟨sb, hsb⟩ : ∃ x : ByteArray, strV b = .string x := ⟨_, rfl⟩
      rw [hsb] at HEn
      have esb : sb.toList = b := by rw [strV_string b sb hsb, Lib.toList_data]
      have ess : s.toList = c0 :: t0 := by rw [HS.out.2, Lib.toList_data]
      clear hsb hrz
      have hdr := decRF_some (c0 := c0) HRa.out
      rw [HE.out] at hdr
      have HDr := Lib.hid hdr
      clear hdr
      by_cases hn : n = 0
      · subst hn
        by_cases hbt : b = c0 :: t0
        · have q : (sb.toList == s.toList) = true := by rw [esb, ess, hbt]; simp
          have HBt := Lib.hid hbt
          clear esb ess hbt
          go_wp2_with (first
            | (go_at_call 11; refine HEn.out.mono ?_; rintro e w2 ⟨rfl, hc2⟩; have HC2 := Lib.hid hc2; clear hc2))
          go_ret2
          refine ⟨_, _, rfl, ?_, HC.out.trans' HC2.out⟩
          rw [HDr.out, if_pos (by rw [HBt.out])]
          exact ⟨HP.out.kept HC2.out (fun _ _ h => h), rfl⟩
        · have q : (sb.toList == s.toList) = false := by rw [esb, ess]; simpa using hbt
          have HBt := Lib.hid hbt
          clear esb ess hbt
          go_wp2_with (first
            | (go_at_call 11; refine HEn.out.mono ?_; rintro e w2 ⟨rfl, hc2⟩; have HC2 := Lib.hid hc2; clear hc2))
          go_ret2
          refine ⟨_, _, rfl, ?_, HC.out.trans' HC2.out⟩
          rw [HDr.out, if_neg (fun e => HBt.out (by cases e; rfl))]
          exact ⟨rfl, rfl⟩
      · have hni : ¬ (n : Int) = 0 := by omega
        have HN := Lib.hid hn
        clear esb ess hn
        go_wp2_with (first
          | (go_at_call 11; refine HEn.out.mono ?_; rintro e w2 ⟨rfl, hc2⟩; have HC2 := Lib.hid hc2; clear hc2))
        go_ret2
        refine ⟨_, _, rfl, ?_, HC.out.trans' HC2.out⟩
        rw [HDr.out, if_neg (fun e => HN.out (by cases e; rfl))]
        exact ⟨rfl, rfl⟩
    | cons c r =>
      have i1 : (0 : Int) < (sr.size : Int) := by rw [hrz, List.length_cons]; omega
      have i2 : (1 : Int) ≤ (sr.size : Int) := by omega
      have hrz' : sr.size = r.length + 1 := by rw [hrz, List.length_cons]
      obtain ⟨s1, hs1⟩ : ∃ x, sr.extract 1 (r.length + 1) = x := ⟨_, rfl⟩
      have e1 : strV r = .string s1 := by
        rw [← hs1, Lib.extract_eq, hrst]
        simp [strV]
      have E1 := Lib.hid e1
      have HSr := Lib.hid (And.intro hsr hrst)
      have hb : ∀ h : 0 < sr.size, (sr[0]'h) = c := by
        intro h
        subst hrst
        rfl
      have hrs := restF_step (rest := c :: r) (c := c) (r := r) rfl
      rw [hrs] at HRs
      have hl2 : r.length ≤ 2000000 := by rw [List.length_cons] at hl; omega
      have HL := Lib.hid hl
      clear e1 hsr hrst hrz hrs hl
      cases hcf : cutF r with
      | none =>
        have hpf : putF c r = none := by unfold putF; rw [hcf]
        rw [hpf] at HRs
        have HCut := Lib.hid (fun w => cutR_any w r hl2)
        rw [hcf, E1.out] at HCut
        have HCut := Lib.hid (show ∀ w, Calls Tryz.prog 44 #[.string s1] w fun e w' => e = .returned (.tuple #[.string ⟨#[]⟩, .string ⟨#[]⟩, .bool false]) ∧ Chg (fun _ => False) w w' from HCut.out)
        clear hpf hcf
        have hca : Chg (fun _ => False) wr (wr.alloc (.cells #[.string ⟨#[]⟩, .string ⟨#[]⟩, .bool ((c.toNat : Int) == 1)] 45)) := (Chg.refl _ _).alloc _
        have HCa := Lib.hid hca
        clear hca
        go_wp2_with (first
          | (go_at_call 44; fail))
        refine (HCut.out _).mono ?_
        rintro e w1 ⟨rfl, hc1⟩
        have HC1 := Lib.hid ((HC.out.trans' HCa.out).trans' hc1)
        clear hc1
        dsimp only
        go_wp2_with fail
        go_ret2
        refine ⟨_, _, rfl, ?_, HC1.out⟩
        rw [decRF_none HRs.out]
        exact ⟨rfl, rfl⟩
      | some x =>
        obtain ⟨k, m⟩ := x
        have hml := cutF_less hcf
        have HCut := Lib.hid (fun w => cutR_any w r hl2)
        rw [hcf, E1.out] at HCut
        obtain ⟨sk, hsk⟩ : ∃ x : ByteArray, strV k = .string x := ⟨_, rfl⟩
        obtain ⟨sm, hsm⟩ : ∃ x : ByteArray, strV m = .string x := ⟨_, rfl⟩
        simp only [hsk, hsm] at HCut
        have hsmz := str_size m sm hsm
        have HSk := Lib.hid hsk
        have HSm := Lib.hid hsm
        have HMl := Lib.hid (And.intro hml hsmz)
        have hml2 : m.length ≤ 2000000 := by omega
        have HPl := Lib.hid (show ∀ g, (Value.slice oa acc.length cap).ownBlock = some g → g ≠ wr.heap.size from fun g hg e => by have := (HP.out.lt hg).2; omega)
        have hwz : w.heap.size ≤ wr.heap.size := HC.out.size
        have HWz := Lib.hid hwz
        have HRz := Lib.hid hrz'
        clear hml hsk hsm hsmz hwz hl2
        by_cases hc1 : c = 1
        · have hpf : putF c r = some (⟨k, [], true⟩, m) := by unfold putF; rw [hcf]; simp only; rw [if_pos hc1]
          rw [hpf] at HRs
          have hcn : c.toNat = 1 := by rw [hc1]; rfl
          have HCa := Lib.hid (show Chg (fun _ => False) wr (wr.alloc (.cells #[.string ⟨#[]⟩, .string ⟨#[]⟩, .bool true] 45)) from (Chg.refl _ _).alloc _)
          have HBa := Lib.hid (show (wr.alloc (.cells #[.string ⟨#[]⟩, .string ⟨#[]⟩, .bool true] 45)).heap[wr.heap.size]? = some (.cells #[.string ⟨#[]⟩, .string ⟨#[]⟩, .bool true] 45 (0, 0)) from block_alloc_new _ _)
          clear hpf hcf hc1 hml2
          go_wp2_with (first
            | (go_at_call 44; fail))
          refine (HCut.out _).mono ?_
          rintro e w1 ⟨rfl, hd1⟩
          have hb1 := hd1.at HBa.out id
          have x0 := cell_of_block (i := 0) hb1 rfl
          have z0 : w1.frozen? ⟨wr.heap.size, 0, none⟩ = false := free_of_block hb1
          have hc2 : Chg (· = wr.heap.size) w1 (w1.setCell ⟨wr.heap.size, 0, none⟩ (.string sk)) := Chg.setCell (S := (· = wr.heap.size)) (Chg.refl _ _) (fun _ => rfl) _
          have hb2 : (w1.setCell ⟨wr.heap.size, 0, none⟩ (.string sk)).heap[wr.heap.size]? = some (.cells #[.string sk, .string ⟨#[]⟩, .bool true] 45 (0, 0)) := block_setCell (i := 0) (v := .string sk) hb1
          have HC1 := Lib.hid ((HC.out.trans' HCa.out).trans' hd1)
          have hp2 := ((HP.out.kept HCa.out (fun _ _ h => h)).kept hd1 (fun _ _ h => h)).kept hc2 (fun g hg => HPl.out g hg)
          have hcc2 : Chg (fun _ => False) w (w1.setCell ⟨wr.heap.size, 0, none⟩ (.string sk)) := HC1.out.new hc2 (fun i e => by have e : i = wr.heap.size := e; have := HWz.out; omega)
          dsimp only
          clear hd1 hb1 hc2
          have HB2 := Lib.hid hb2
          have HP2 := Lib.hid hp2
          have HC2 := Lib.hid hcc2
          clear hb2 hp2 hcc2
          have y0 := cell_of_block (i := 0) HB2.out rfl
          have y1 := cell_of_block (i := 1) HB2.out rfl
          have y2 := cell_of_block (i := 2) HB2.out rfl
          have hcb : Chg (fun _ => False) (w1.setCell ⟨wr.heap.size, 0, none⟩ (.string sk)) ((w1.setCell ⟨wr.heap.size, 0, none⟩ (.string sk)).alloc (.cells #[.string sk, .string ⟨#[]⟩, .bool true] 45)) := (Chg.refl _ _).alloc _
          obtain ⟨v8, w8, hr8, hp8, hg8⟩ := append_putO (p := (⟨k, [], true⟩ : PV)) (nb := (w1.setCell ⟨wr.heap.size, 0, none⟩ (.string sk)).heap.size) (HP2.out.kept hcb (fun _ _ h => h)) (fun j u hu => by
            refine cell_of_block (block_alloc_new (w1.setCell ⟨wr.heap.size, 0, none⟩ (.string sk)) (.cells #[.string sk, .string ⟨#[]⟩, .bool true] 45)) ?_
            have e : ((⟨k, [], true⟩ : PV)).row = [.string sk, .string ⟨#[]⟩, .bool true] := by unfold PV.row; simp only; rw [HSk.out, show strV [] = .string ⟨#[]⟩ from rfl]
            rw [e] at hu
            simpa using hu) (Nat.le_trans HC2.out.size hcb.size) (by have := HL.out; rw [List.length_cons] at this; omega) 22
          have hszw : ((w1.setCell ⟨wr.heap.size, 0, none⟩ (.string sk))).heap.size = w1.heap.size := by simp [World.setCell]
          rw [hszw] at hr8
          have HR8 := Lib.hid hr8
          clear hszw
          have HP8 := Lib.hid hp8
          have HC8 := Lib.hid (show Chg (fun _ => False) w w8 from (HC2.out.trans' hcb).new hg8 (fun i e => (HP2.out.lt e.symm).1))
          clear hcb hr8 hp8 hg8
          go_wp2_with (first
            | (at_builtin; refine Lib.wpList_append_run _ rfl _ _ _ _ rfl _ _ rfl rfl _ _ HR8.out ?_))
          refine ⟨⟨acc ++ [⟨k, [], true⟩], m, sm, rfl, HSm.out, HP8.out, ?_, ?_, HC8.out⟩, ?_⟩
          · have := HL.out; have := HMl.out.1; simp only [List.length_append, List.length_cons, List.length_nil] at *; omega
          · rw [HRs.out]
            exact map_push
          · show sm.size < sr.size
            have := HMl.out; have := HRz.out; omega
        · have hcn : ¬ c.toNat = 1 := fun e => hc1 (UInt8.toNat_inj.1 (by rw [e]; rfl))
          have hcb : ((c.toNat : Int) == 1) = false := by simp; omega
          have HCa := Lib.hid (show Chg (fun _ => False) wr (wr.alloc (.cells #[.string ⟨#[]⟩, .string ⟨#[]⟩, .bool false] 45)) from (Chg.refl _ _).alloc _)
          have HBa := Lib.hid (show (wr.alloc (.cells #[.string ⟨#[]⟩, .string ⟨#[]⟩, .bool false] 45)).heap[wr.heap.size]? = some (.cells #[.string ⟨#[]⟩, .string ⟨#[]⟩, .bool false] 45 (0, 0)) from block_alloc_new _ _)
          have hcut2 := fun w => cutR_any w m hml2
          rw [HSm.out] at hcut2
          have HCut2 := Lib.hid hcut2
          have hpf0 : putF c r = match cutF m with | none => none | some (v, r) => some (⟨k, v, false⟩, r) := by
            unfold putF
            rw [hcf]
            simp only
            rw [if_neg hc1]
            cases cutF m <;> rfl
          have HPf := Lib.hid hpf0
          clear hpf0 hcf hc1 hml2 hcut2 hcn
          go_wp2_with (first
            | (go_at_call 44; fail))
          refine (HCut.out _).mono ?_
          rintro e w1 ⟨rfl, hd1⟩
          have hb1 := hd1.at HBa.out id
          have x0 := cell_of_block (i := 0) hb1 rfl
          have z0 : w1.frozen? ⟨wr.heap.size, 0, none⟩ = false := free_of_block hb1
          have hc2 : Chg (· = wr.heap.size) w1 (w1.setCell ⟨wr.heap.size, 0, none⟩ (.string sk)) := Chg.setCell (S := (· = wr.heap.size)) (Chg.refl _ _) (fun _ => rfl) _
          have hb2 : (w1.setCell ⟨wr.heap.size, 0, none⟩ (.string sk)).heap[wr.heap.size]? = some (.cells #[.string sk, .string ⟨#[]⟩, .bool false] 45 (0, 0)) := block_setCell (i := 0) (v := .string sk) hb1
          have HC1 := Lib.hid ((HC.out.trans' HCa.out).trans' hd1)
          have hp2 := ((HP.out.kept HCa.out (fun _ _ h => h)).kept hd1 (fun _ _ h => h)).kept hc2 (fun g hg => HPl.out g hg)
          have hcc2 : Chg (fun _ => False) w (w1.setCell ⟨wr.heap.size, 0, none⟩ (.string sk)) := HC1.out.new hc2 (fun i e => by have e : i = wr.heap.size := e; have := HWz.out; omega)
          dsimp only
          clear hd1 hb1 hc2
          have HB2 := Lib.hid hb2
          have HP2 := Lib.hid hp2
          have HC2 := Lib.hid hcc2
          clear hb2 hp2 hcc2
          have y2 := cell_of_block (i := 2) HB2.out rfl
          go_wp2_with (first
            | (go_at_call 44; fail))
          cases hcm : cutF m with
          | none =>
            rw [HPf.out, hcm] at HRs
            rw [hcm] at HCut2
            refine (HCut2.out _).mono ?_
            rintro e w3 ⟨rfl, hd3⟩
            have HC3 := Lib.hid (HC2.out.trans' hd3)
            clear hd3 y2 x0 z0 hcm
            dsimp only
            go_wp2_with fail
            go_ret2
            refine ⟨_, _, rfl, ?_, HC3.out⟩
            rw [decRF_none HRs.out]
            exact ⟨rfl, rfl⟩
          | some y =>
            obtain ⟨v, r2⟩ := y
            rw [HPf.out, hcm] at HRs
            rw [hcm] at HCut2
            have hml := cutF_less hcm
            obtain ⟨sv, hsv⟩ : ∃ x : ByteArray, strV v = .string x := ⟨_, rfl⟩
            obtain ⟨s2, hs2⟩ : ∃ x : ByteArray, strV r2 = .string x := ⟨_, rfl⟩
            simp only [hsv, hs2] at HCut2
            have HSv := Lib.hid hsv
            have HS2 := Lib.hid hs2
            have HM2 := Lib.hid (And.intro hml (str_size r2 s2 hs2))
            clear hml hsv hs2 hcm
            refine (HCut2.out _).mono ?_
            rintro e w3 ⟨rfl, hd3⟩
            have hb3 := hd3.at HB2.out id
            have x1 := cell_of_block (i := 1) hb3 rfl
            have z1 : w3.frozen? ⟨wr.heap.size, 1, none⟩ = false := free_of_block hb3
            have hc4 : Chg (· = wr.heap.size) w3 (w3.setCell ⟨wr.heap.size, 1, none⟩ (.string sv)) := Chg.setCell (S := (· = wr.heap.size)) (Chg.refl _ _) (fun _ => rfl) _
            have hb4 : (w3.setCell ⟨wr.heap.size, 1, none⟩ (.string sv)).heap[wr.heap.size]? = some (.cells #[.string sk, .string sv, .bool false] 45 (0, 0)) := block_setCell (i := 1) (v := .string sv) hb3
            have HC3 := Lib.hid (HC2.out.trans' hd3)
            have hp4 := (HP2.out.kept hd3 (fun _ _ h => h)).kept hc4 (fun g hg => HPl.out g hg)
            have hcc4 : Chg (fun _ => False) w (w3.setCell ⟨wr.heap.size, 1, none⟩ (.string sv)) := HC3.out.new hc4 (fun i e => by have e : i = wr.heap.size := e; have := HWz.out; omega)
            dsimp only
            clear hd3 hb3 hc4 y2 x0 z0 HP2 HC2
            have HB4 := Lib.hid hb4
            have HP2 := Lib.hid hp4
            have HC2 := Lib.hid hcc4
            clear hb4 hp4 hcc4
            have y0 := cell_of_block (i := 0) HB4.out rfl
            have y1 := cell_of_block (i := 1) HB4.out rfl
            have y2 := cell_of_block (i := 2) HB4.out rfl
            have hcb : Chg (fun _ => False) (w3.setCell ⟨wr.heap.size, 1, none⟩ (.string sv)) ((w3.setCell ⟨wr.heap.size, 1, none⟩ (.string sv)).alloc (.cells #[.string sk, .string sv, .bool false] 45)) := (Chg.refl _ _).alloc _
            obtain ⟨v8, w8, hr8, hp8, hg8⟩ := append_putO (p := (⟨k, v, false⟩ : PV)) (nb := (w3.setCell ⟨wr.heap.size, 1, none⟩ (.string sv)).heap.size) (HP2.out.kept hcb (fun _ _ h => h)) (fun j u hu => by
              refine cell_of_block (block_alloc_new (w3.setCell ⟨wr.heap.size, 1, none⟩ (.string sv)) (.cells #[.string sk, .string sv, .bool false] 45)) ?_
              have e : ((⟨k, v, false⟩ : PV)).row = [.string sk, .string sv, .bool false] := by unfold PV.row; simp only; rw [HSk.out, HSv.out]
              rw [e] at hu
              simpa using hu) (Nat.le_trans HC2.out.size hcb.size) (by have := HL.out; rw [List.length_cons] at this; omega) 22
            have hszw : ((w3.setCell ⟨wr.heap.size, 1, none⟩ (.string sv))).heap.size = w3.heap.size := by simp [World.setCell]
            rw [hszw] at hr8
            have HR8 := Lib.hid hr8
            clear hszw
            have HP8 := Lib.hid hp8
            have HC8 := Lib.hid (show Chg (fun _ => False) w w8 from (HC2.out.trans' hcb).new hg8 (fun i e => (HP2.out.lt e.symm).1))
            clear hcb hr8 hp8 hg8
            go_wp2_with (first
              | (at_builtin; refine Lib.wpList_append_run _ rfl _ _ _ _ rfl _ _ rfl rfl _ _ HR8.out ?_))
            refine ⟨⟨acc ++ [⟨k, v, false⟩], r2, s2, rfl, HS2.out, HP8.out, ?_, ?_, HC8.out⟩, ?_⟩
            · have := HL.out; have := HMl.out.1; have := HM2.out.1; simp only [List.length_append, List.length_cons, List.length_nil] at *; omega
            · rw [HRs.out]
              exact map_push
            · show s2.size < sr.size
              have := HMl.out; have := HRz.out; have := HM2.out; omega

end Go.Proofs.YtbkefhoapnaciaaGreat.kvs
end

/-
  kv: what KvCodes wants besides: an append of an argument's batch; a law of the second form.
-/
section
set_option linter.unusedSimpArgs false
set_option linter.unusedVariables false
namespace Go.My
open Go.ChangeShapes Go.WideShapes Go.ChangeAt Go.RowKit
/-- A law of the second form: its call returns true and changes no old block. -/
theorem law_post {H : Type} {enc : TypeId × Value → H} {P : Program} {F : FuncId} {fn : Func} {s : ChangeSpec} {tb : TypeId} (hl : laidOutB P = true) (rows : ∀ t ∈ fn.params.toList, P.readableRec t = true ∧ t < P.types.size) (hvars : s.vars = []) (hres : fn.resultTypes = #[tb]) (htb : P.underlying tb = some .bool)
    (hspec : ∀ ds : List (DataW H), ds.length = fn.params.size → s.fn H ds = { results := [.lit (.bool true)], args := ds })
    {W : World} {args : Array Value} {ds gs : List (DataW H)} {before : List MemPlace} (hW : DataW.Whole enc P fn.params.toList s.vars false W args.toList ds gs before)
    (walk : gs = [] → DataW.TrodAll enc P W 0 (fun _ => true) true fn.params.toList args.toList ds before → Calls P F args W fun e W' => e = .returned (.bool true) ∧ Chg (fun _ => False) W W') :
    Calls P F args W fun e W' => ∃ v, e = .returned v ∧ s.post enc P fn false true false false W args v W' := by
  have hW' := hW
  have hlt := hW.lt
  obtain ⟨p, q, hA, hV, rfl, hfz, hnd⟩ := hW
  have hg : gs = [] ∧ q = [] := by
    rw [hvars] at hV
    cases gs with
    | nil => exact ⟨rfl, hV⟩
    | cons g gs => exact hV.elim
  obtain ⟨rfl, rfl⟩ := hg
  simp only [List.append_nil] at hlt hW'
  refine (walk rfl (by rw [List.append_nil]; exact hA)).mono fun e W' ⟨he, hc⟩ => ⟨_, he, ?_⟩
  have hb : Below W.heap.size W W' := hc.below (Nat.le_refl _) (fun k h => h.elim)
  have hlen : ds.length = fn.params.size := by have := (trodAll_length hA).1; simpa using this
  refine ⟨ds, [], p, [], p, [], hW', ?_, ?_, ?_, hb.frame _, fun h => by cases h⟩
  · rw [List.append_nil, hspec ds hlen, hres]
    exact trodAll_mk1 (shut_bool htb _)
  · rw [List.append_nil, hspec ds hlen]
    exact trodAll_stays hl hb rows hA hlt
  · rw [List.append_nil, hspec ds hlen, hvars]
    rfl
end Go.My

namespace Go.Proofs.YtbkefhoapnaciaaGreat.kvs
open Go.ChangeShapes Go.WideShapes Go.RowKit Go.Maps Go.My Go.ChangeMaps Go.Deep disks bufs wals
set_option maxRecDepth 100000

variable {w w' : World}

theorem append_args {B : Nat} {v v2 : Value} {l l2 : List PV} (h : Puts w B v l) (h2 : PutsAt w v2 l2) (hB : B ≤ w.heap.size) (hl : l.length + l2.length ≤ 1000000) (ty : TypeId) :
    ∃ v' w', (Builtin.append_ #[22, 22] ty #[v, v2]).run Tryz.prog w = .ok v' w' ∧ Puts w' B v' (l ++ l2) ∧ Chg (fun k => some k = v.ownBlock) w w' := by
  obtain ⟨i, hi, hz, hsz, hby⟩ := info_parts info_put
  obtain ⟨oa, cap2, rfl, hr⟩ := h2
  cases oa with
  | none =>
    have hl2 : l2 = [] := by
      cases l2 with
      | nil => rfl
      | cons p l2 => obtain ⟨b, off, e⟩ := hr.spot (by simp); cases e
    subst hl2
    rcases h.row.2 with ⟨rfl, r0⟩ | ⟨g, cap, cur, rfl, -, -, hnc, -⟩
    · refine ⟨.slice none 0 0, w, ?_, by rw [List.append_nil]; exact h, Chg.refl _ _⟩
      simp [Builtin.append_, run_underlying Tryz.underlying22, sizeOf, typeInfo, hi, Builtin.lenOf, Builtin.firstCells]
    · refine ⟨_, w, ?_, by rw [List.append_nil]; exact h, Chg.refl _ _⟩
      have hnc' : l.length ≤ cap := by simpa using hnc
      simp [Builtin.append_, run_underlying Tryz.underlying22, sizeOf, typeInfo, hi, Builtin.lenOf, Builtin.firstCells, hnc', storeCells]
  | some a =>
    have h3 : ∀ r ∈ l2.map PV.row, r.length = 3 := fun r hr => by obtain ⟨p, -, rfl⟩ := List.mem_map.1 hr; rfl
    have hf : (l2.map PV.row).flatten.length = l2.length * 3 := by rw [flat_length 3 _ h3, List.length_map]
    obtain ⟨v', w', h1, h3', h4, -⟩ := run_append_own (P := Tryz.prog) w B 22 ty 45 i _ 3 40 Tryz.underlying22 hi hz hsz hby rfl (by decide) v _ _ h.row a l2.length cap2 (l2.map PV.row).flatten hf (fun j u hu => by
      have hjl : j < l2.length * 3 := by have := (List.getElem?_eq_some_iff.1 hu).1; rw [hf] at this; exact this
      have hne : l2.map PV.row ≠ [] := by intro e; rw [e] at hu; simp at hu
      obtain ⟨b, off, ha⟩ := hr.spot hne
      cases ha
      have e1 : j = j / 3 * 3 + j % 3 := by omega
      rw [e1, flat_get 3 _ h3 _ _ (Nat.mod_lt _ (by omega))] at hu
      cases hq : (l2.map PV.row)[j / 3]? with
      | none => rw [hq] at hu; cases hu
      | some r =>
        rw [hq] at hu
        have := hr.cell b off rfl (j / 3) r (j % 3) u hq hu
        rw [show ((⟨b, off, none⟩ : Addr).add j) = ⟨b, off + j / 3 * 3 + j % 3, none⟩ by unfold Addr.add; split <;> (simp <;> omega)]
        exact this) (fun u hu => by
      obtain ⟨r, hr, hur⟩ := List.mem_flatten.1 hu
      obtain ⟨p, -, rfl⟩ := List.mem_map.1 hr
      exact row_oneCell p u hur) (by rw [List.length_map]; unfold maxLen; omega) (by rw [List.length_map]; omega) hB
    refine ⟨v', w', h1, ?_, Chg.of_grown h4⟩
    show OwnRecs w' B _ 3 v' ((l ++ l2).map PV.row)
    rw [List.map_append]
    refine ⟨?_, fun r hr => by rcases List.mem_append.1 hr with hr | hr; exact h.each r hr; exact h3 r hr⟩
    rw [List.length_append, List.flatten_append, List.length_map, List.length_map]
    rw [List.length_map] at h3'
    exact h3'

set_option maxRecDepth 100000 in
theorem open_puts2 {H : Type} {enc : TypeId × Value → H} {W : World} {v : Value} {d : DataW H} {ps : List MemPlace} {r : Reach} {b0 : Nat}
    (hv : Value.okWide Tryz.prog W r b0 22 v) (h : DataW.Trod enc Tryz.prog W 0 (fun _ => true) true 22 v d ps) :
    ∃ (oa : Option Addr) (cap : Nat) (l : List PV), v = .slice oa l.length cap ∧ l.length ≤ cap ∧ cap ≤ maxLen ∧ RowsAt W 3 oa (l.map PV.row) := by
  obtain ⟨oa, l, cap, rfl, h1, h2, h3, h4⟩ := open_rows Tryz.underlying22 cells_put (by omega) hv h
  obtain ⟨qs, rfl, -⟩ := trod_puts h4
  exact ⟨oa, cap, qs, by rw [List.length_map], by simpa using h1, h2, h3⟩

/-- The first of a batch. -/
theorem rows_take {W : World} {oa : Option Addr} {l : List PV} (h : RowsAt W 3 oa (l.map PV.row)) (n : Nat) : RowsAt W 3 oa ((l.take n).map PV.row) := by
  have hg : ∀ (i : Nat) r, ((l.take n).map PV.row)[i]? = some r → (l.map PV.row)[i]? = some r := by
    intro i r hr
    rw [List.map_take, List.getElem?_take] at hr
    split at hr
    · exact hr
    · cases hr
  refine ⟨fun hne => h.spot (fun e => hne ?_), fun i r hi => h.row i r (hg i r hi), fun b off ho i r j u hi hj => h.cell b off ho i r j u (hg i r hi) hj⟩
  rw [List.map_take, e, List.take_nil]

end Go.Proofs.YtbkefhoapnaciaaGreat.kvs
end
