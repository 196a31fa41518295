/- . -/
import Derived.Test.YtbjagmlbamjdbaaGreatPx0RootOnce
import Derived.Test.YtbjagmlbamjdbaaGreatPx13RootOnce
import Derived.Test.YtbjagmlbamjdbaaGreatPx15RootOnce

set_option linter.unusedSimpArgs false
set_option linter.unusedVariables false
section
namespace Go.Proofs.YtbjagmlbamjdbaaGreat.kvs
open Go.RowKit Go.Maps Go.My Go.ChangeMaps disks bufs wals
set_option maxRecDepth 100000
set_option linter.unusedVariables false

variable {w w' : World} {b q l : Nat} {m : List KV}

def NoDb (w : World) (p : Option Addr) : Prop := p = none ∨ ∃ T, p = some ⟨T, 0, none⟩ ∧ w.cell? ⟨T, 0, none⟩ = some (.pointer none)
theorem NoDb.kept {p : Option Addr} (h : NoDb w p) (hc : Chg (fun _ => False) w w') : NoDb w' p := by
  rcases h with h | ⟨T, h1, h2⟩
  · exact Or.inl h
  · exact Or.inr ⟨T, h1, hc.cell h2 id⟩

structure DbIs (w : World) (b l q : Nat) (m : List KV) : Prop where
  head : w.heap[b]? = some (.cells #[.pointer (some ⟨l, 0, none⟩), .map (some q)] 118 (0, 0))
  map : MapAt w q m
theorem DbIs.kept {S : Nat → Prop} (h : DbIs w b l q m) (hc : Chg S w w') (h1 : ¬ S b) (h2 : ¬ S q) : DbIs w' b l q m := ⟨hc.at h.head h1, h.map.kept hc h2⟩
theorem DbIs.fresh (h : DbIs w b l q m) (hc : Chg (fun _ => False) w w') : DbIs w' b l q m := h.kept hc id id

theorem db_no (w : World) (h : DbIs w b l q m) : Calls Tryz.prog 65 #[.pointer (some ⟨b, 0, none⟩)] w fun e w' => e = .returned (.bool false) ∧ w = w' := by
  have c0 : w.cell? ⟨b, 0, none⟩ = some (.pointer (some ⟨l, 0, none⟩)) := cell_of_block h.head rfl
  clear h
  go_enter Tryz.func65, Tryz.ntmps65
  go_wp2_with fail
  go_ret
  exact ⟨rfl, rfl⟩

theorem len_any (w : World) (h : DbIs w b l q m) : Calls Tryz.prog 100 #[.pointer (some ⟨b, 0, none⟩)] w fun e w' => e = .returned (.int .i64 (m.length : Int)) ∧ w = w' := by
  have HNo := Lib.hid (db_no w h)
  have c1 : w.cell? ⟨b, 1, none⟩ = some (.map (some q)) := cell_of_block h.head rfl
  have hlen : (Builtin.len_ #[116] 3 #[.map (some q)]).run Tryz.prog w = .ok (.int .i64 m.length) w := h.map.len Tryz.underlying116 _
  clear h
  go_enter Tryz.func100, Tryz.ntmps100
  go_wp2_with (first
    | (go_at_call 65; refine HNo.out.mono ?_; rintro e w' ⟨rfl, rfl⟩))
  go_ret
  exact ⟨rfl, rfl⟩

theorem zero_str (w : World) : (zeroValue 9).run Tryz.prog w = .ok (strV []) w := Tryz.zeroValue9 w

theorem get_any (w : World) (h : DbIs w b l q m) (k : Txt) (hk : k.length ≤ maxLen) : Calls Tryz.prog 99 #[.pointer (some ⟨b, 0, none⟩), strV k] w fun e w' => e = .returned (.tuple #[strV ((mget m k).getD []), .bool (mget m k).isSome]) ∧ w = w' := by
  have HNo := Lib.hid (db_no w h)
  have c1 : w.cell? ⟨b, 1, none⟩ = some (.map (some q)) := cell_of_block h.head rfl
  have HM := Lib.hid h.map
  have hres : lookRes true (strV []) strV (mget m k) = .tuple #[strV ((mget m k).getD []), .bool (mget m k).isSome] := by cases mget m k <;> rfl
  have HRes := Lib.hid hres
  clear h hres
  go_enter Tryz.func99, Tryz.ntmps99
  go_wp2_with (first
    | (go_at_call 65; refine HNo.out.mono ?_; rintro e w' ⟨rfl, rfl⟩)
    | (at_lookup; refine wpList_look HM.out rfl _ _ _ _ rfl _ Tryz.underlying116 (zero_str _) rfl k rfl hk HRes.out ?_))
  go_ret2
  exact ⟨rfl, rfl⟩

end Go.Proofs.YtbjagmlbamjdbaaGreat.kvs
end

section
namespace Go.Proofs.YtbjagmlbamjdbaaGreat.kvs
open Go.RowKit Go.Maps Go.My Go.ChangeMaps disks bufs wals
set_option maxRecDepth 100000

variable {w w' : World} {b q l : Nat} {m : List KV}

def inScan (fr to : Txt) (p : KV) : Bool := !ltB p.1 fr && (decide (to = []) || ltB p.1 to)
def scanF (m : List KV) (fr to : Txt) : List KV := (sortF m).filter (inScan fr to)

set_option maxHeartbeats 2000000 in
theorem scan_any (w : World) (h : DbIs w b l q m) (hn : m.length ≤ 1000000) (fr to : Txt) :
    Calls Tryz.prog 97 #[.pointer (some ⟨b, 0, none⟩), strV fr, strV to] w fun e w' => ∃ v, e = .returned v ∧ Puts w' w.heap.size v ((scanF m fr to).map ofKV) ∧ Chg (fun _ => False) w w' := by
  have HNo := Lib.hid (db_no w h)
  have c1 : w.cell? ⟨b, 1, none⟩ = some (.map (some q)) := cell_of_block h.head rfl
  have HSo := Lib.hid (sorted_any w h.map hn)
  have hLl : (sortF m).length ≤ 1000000 := by rw [sortF_len]; exact hn
  unfold scanF
  obtain ⟨L, hL⟩ : ∃ L, sortF m = L := ⟨_, rfl⟩
  rw [hL] at HSo hLl ⊢
  obtain ⟨sf, hsf⟩ : ∃ s : ByteArray, strV fr = .string s := ⟨_, rfl⟩
  obtain ⟨st, hst⟩ : ∃ s : ByteArray, strV to = .string s := ⟨_, rfl⟩
  have esf : sf.toList = fr := by rw [strV_string fr sf hsf, Lib.toList_data]
  have est : st.toList = to := by rw [strV_string to st hst, Lib.toList_data]
  rw [hsf, hst]
  clear h hL hsf hst hn
  go_enter Tryz.func97, Tryz.ntmps97
  go_wp2_with (first
    | (go_at_call 65; refine HNo.out.mono ?_; rintro e w' ⟨rfl, rfl⟩)
    | (go_at_call 69; refine HSo.out.mono ?_; rintro e w1 ⟨lv, rfl, hp1, hc1⟩
       obtain ⟨oa, cap, rfl, -⟩ := hp1.slice
       rw [List.length_map, List.length_map]
       have HP1 := Lib.hid hp1
       have HC1 := Lib.hid hc1
       have HZ1 := Lib.hid hc1.size
       clear hp1 hc1))
  go_loopw [7, 18] (fun u j wr => ∃ k : Nat, j = .int .i64 k ∧ k ≤ L.length ∧ Puts wr w1.heap.size u (((L.take k).filter (inScan fr to)).map ofKV) ∧ Chg (fun _ => False) w1 wr) (fun _ j _ => L.length - (intOf j).toNat)
  · exact ⟨0, rfl, Nat.zero_le _, OwnRecs.nil _ _ _ _, Chg.refl _ _⟩
  obtain ⟨k, rfl, hk, ho, hc⟩ := hrel
  have HO := Lib.hid ho
  have HC := Lib.hid hc
  clear ho hc
  by_cases hlt : k < L.length
  · have hki : (k : Int) < (L.length : Int) := by omega
    obtain ⟨g', cap', p, e1, hr, d0, d1, d2⟩ := put_cells (HP1.out.kept HC.out (fun _ _ h => h)) (by rw [List.length_map]; exact hlt)
    simp only [Value.slice.injEq] at e1
    obtain ⟨rfl, -, -⟩ := e1
    rw [List.getElem?_map, List.getElem?_eq_getElem hlt, Option.map_some, Option.some.injEq] at hr
    obtain ⟨⟨pk, pv⟩, hp⟩ : ∃ x, L[k] = x := ⟨_, rfl⟩
    have hgk : L[k]? = some (pk, pv) := by rw [List.getElem?_eq_getElem hlt, hp]
    rw [hp] at hr
    subst hr
    have HGk := Lib.hid hgk
    clear hp hgk
    unfold ofKV at d0 d1 d2
    simp only at d0 d1 d2
    obtain ⟨sk, hsk⟩ : ∃ s : ByteArray, strV pk = .string s := ⟨_, rfl⟩
    obtain ⟨sv, hsv⟩ : ∃ s : ByteArray, strV pv = .string s := ⟨_, rfl⟩
    have esk : sk.toList = pk := by rw [strV_string pk sk hsk, Lib.toList_data]
    rw [hsk] at d0
    rw [hsv] at d1
    have q1 : Op.bytesLess sk.toList sf.toList = ltB pk fr := by rw [esk, esf]; rfl
    have q2 : Op.bytesLess sk.toList st.toList = ltB pk to := by rw [esk, est]; rfl
    have q3 : (st.toList == ([] : List UInt8)) = decide (to = []) := by
      rw [est]
      by_cases h : to = []
      · simp [h]
      · simp [h]
    have hca : Chg (fun _ => False) wr (wr.alloc (.cells #[.string sk, .string sv, .bool false] 103)) := (Chg.refl _ _).alloc _
    have hcb := hca.alloc (.cells #[.string sk, .string sv, .bool false] 103)
    have hzz : w1.heap.size ≤ wr.heap.size := HC.out.size
    obtain ⟨v8, w8, hr8, hp8, hg8⟩ := append_putO (p := ofKV (pk, pv)) (nb := wr.heap.size + 1) (HO.out.kept hcb (fun _ _ h => h)) (fun j u hu => by
      have hb : ((wr.alloc (.cells #[.string sk, .string sv, .bool false] 103)).alloc (.cells #[.string sk, .string sv, .bool false] 103)).heap[wr.heap.size + 1]? = some (.cells #[.string sk, .string sv, .bool false] 103 (0, 0)) := by
        have := block_alloc_new (wr.alloc (.cells #[.string sk, .string sv, .bool false] 103)) (.cells #[.string sk, .string sv, .bool false] 103)
        rw [World.size_alloc] at this
        exact this
      refine cell_of_block hb ?_
      have e : (ofKV (pk, pv)).row = [.string sk, .string sv, .bool false] := by unfold ofKV PV.row; rw [hsk, hsv]
      rw [e] at hu
      simpa using hu) (Nat.le_trans hzz hcb.size) (by rw [List.length_map]; have := List.length_filter_le (inScan fr to) (L.take k); have h2 : (L.take k).length ≤ 1000000 := by rw [List.length_take]; omega
                                                      omega) 66
    have HR8 := Lib.hid hr8
    have HP8 := Lib.hid hp8
    have HC8 := Lib.hid (show Chg (fun _ => False) w1 w8 from (HC.out.trans' hcb).new hg8 (fun i e => (HO.out.lt e.symm).1))
    have HCa := Lib.hid hca
    clear hca hcb hzz hr8 hp8 hg8 hsk hsv
    have hLi : (L.length : Int) ≤ 1000000 := by omega
    have htk : L.take (k + 1) = L.take k ++ [(pk, pv)] := by rw [List.take_add_one, HGk.out]; rfl
    have HTk := Lib.hid htk
    clear htk
    cases a1 : ltB pk fr
    · rw [a1] at q1
      by_cases a2 : to = []
      · rw [decide_eq_true a2] at q3
        have hin : inScan fr to (pk, pv) = true := by unfold inScan; simp [a1, a2]
        have HIn := Lib.hid hin
        clear hin esf est esk
        go_wp2_with (first
          | (at_builtin; refine Lib.wpList_append_run _ rfl _ _ _ _ rfl _ _ rfl rfl _ _ HR8.out ?_))
        refine ⟨⟨k + 1, by go_num, hlt, by rw [HTk.out, List.filter_append, List.filter_cons, HIn.out, if_pos rfl, List.filter_nil, List.map_append]; exact HP8.out, HC8.out⟩, puts_meas hlt⟩
      · rw [decide_eq_false a2] at q3
        cases a3 : ltB pk to
        · rw [a3] at q2
          have hin : inScan fr to (pk, pv) = false := by unfold inScan; simp [a1, a2, a3]
          have HIn := Lib.hid hin
          clear hin esf est esk
          go_wp2_with fail
          refine ⟨⟨k + 1, by go_num, hlt, by rw [HTk.out, List.filter_append, List.filter_cons, HIn.out, if_neg (by simp), List.filter_nil, List.append_nil]; exact HO.out.kept HCa.out (fun _ _ h => h), HC.out.trans' HCa.out⟩, puts_meas hlt⟩
        · rw [a3] at q2
          have hin : inScan fr to (pk, pv) = true := by unfold inScan; simp [a1, a3]
          have HIn := Lib.hid hin
          clear hin esf est esk
          go_wp2_with (first
            | (at_builtin; refine Lib.wpList_append_run _ rfl _ _ _ _ rfl _ _ rfl rfl _ _ HR8.out ?_))
          refine ⟨⟨k + 1, by go_num, hlt, by rw [HTk.out, List.filter_append, List.filter_cons, HIn.out, if_pos rfl, List.filter_nil, List.map_append]; exact HP8.out, HC8.out⟩, puts_meas hlt⟩
    · rw [a1] at q1
      have hin : inScan fr to (pk, pv) = false := by unfold inScan; simp [a1]
      have HIn := Lib.hid hin
      clear hin esf est esk
      go_wp2_with fail
      refine ⟨⟨k + 1, by go_num, hlt, by rw [HTk.out, List.filter_append, List.filter_cons, HIn.out, if_neg (by simp), List.filter_nil, List.append_nil]; exact HO.out.kept HCa.out (fun _ _ h => h), HC.out.trans' HCa.out⟩, puts_meas hlt⟩
  · have hki : ¬ (k : Int) < (L.length : Int) := by omega
    obtain rfl : k = L.length := by omega
    have hoo := HO.out
    rw [List.take_length] at hoo
    have HOo := Lib.hid hoo
    clear hoo
    go_wp2_with fail
    go_ret
    exact ⟨_, rfl, HOo.out.lower HZ1.out, HC1.out.trans' HC.out⟩

end Go.Proofs.YtbjagmlbamjdbaaGreat.kvs
end

section
namespace Go.Proofs.YtbjagmlbamjdbaaGreat.roots
open Go.My kvs

structure RS where
  stack : List Pk
  staged : Nat
  wants : List Pk
  done : List Nat

def lst (c : UInt8) : Nat → List Pk → List KV
  | _, [] => []
  | i, p :: l => ([c, UInt8.ofNat i], pencF p) :: lst c (i + 1) l
def dlst : Nat → List Nat → List KV
  | _, [] => []
  | i, n :: l => (99 :: eight i, eight n) :: dlst (i + 1) l
def tval (S : RS) : Txt := eight S.staged ++ [UInt8.ofNat S.wants.length]
def tlst (S : RS) : List KV := if S.staged = 0 then [] else [([116], tval S)]
def rootL (S : RS) : List KV := dlst 0 S.done ++ (lst 112 0 S.stack ++ (lst 113 0 S.wants ++ tlst S))

theorem ltB_app : ∀ {x y : Txt} (a b : Txt), x.length = y.length → (ltB (x ++ a) (y ++ b) = true ↔ ltB x y = true ∨ (x = y ∧ ltB a b = true))
  | [], [], a, b, _ => by simp [ltB_irrefl]
  | [], _ :: _, _, _, h => by simp at h
  | _ :: _, [], _, _, h => by simp at h
  | c :: x, d :: y, a, b, hl => by
    rw [List.cons_append, List.cons_append, ltB_cons, ltB_cons, ltB_app a b (by simpa using hl)]
    constructor
    · rintro (h | ⟨h0, h | ⟨h1, h⟩⟩)
      · exact Or.inl (Or.inl h)
      · exact Or.inl (Or.inr ⟨h0, h⟩)
      · exact Or.inr ⟨by rw [h0, h1], h⟩
    · rintro ((h | ⟨h0, h⟩) | ⟨h0, h⟩)
      · exact Or.inl h
      · exact Or.inr ⟨h0, Or.inl h⟩
      · rw [List.cons.injEq] at h0
        exact Or.inr ⟨h0.1, Or.inr ⟨h0.2, h⟩⟩
theorem ltB_one {a b : Nat} (ha : a < 256) (hb : b < 256) : ltB [UInt8.ofNat a] [UInt8.ofNat b] = true ↔ a < b := by
  rw [ltB_cons, UInt8.lt_iff_toNat_lt, toNat_ofNat_lt ha, toNat_ofNat_lt hb]
  constructor
  · rintro (h | ⟨-, h⟩)
    · exact h
    · rw [ltB_irrefl] at h; cases h
  · exact Or.inl
theorem ltB_fix : ∀ (k a b : Nat), a < 256 ^ k → b < 256 ^ k → a < b → ltB (fixB k a) (fixB k b) = true
  | 0, a, b, ha, hb, h => by simp at ha hb; omega
  | k + 1, a, b, ha, hb, h => by
    rw [fixB, fixB, ltB_app _ _ (by rw [fixB_length, fixB_length])]
    rw [Nat.pow_succ] at ha hb
    by_cases hd : a / 256 < b / 256
    · exact Or.inl (ltB_fix k _ _ (by omega) (by omega) hd)
    · have e : a / 256 = b / 256 := by omega
      exact Or.inr ⟨by rw [e], (ltB_one (by omega) (by omega)).2 (by omega)⟩
theorem ltB_eight {a b : Nat} (hb : b < 18446744073709551616) (h : a < b) : ltB (eight a) (eight b) = true := by
  have h8 : (256 : Nat) ^ 8 = 18446744073709551616 := by decide
  exact ltB_fix 8 a b (by omega) (by omega) h

theorem lst_keys {c : UInt8} : ∀ {l : List Pk} {i : Nat} {k v : Txt}, (k, v) ∈ lst c i l → ∃ j, i ≤ j ∧ j < i + l.length ∧ k = [c, UInt8.ofNat j]
  | [], _, _, _, h => by cases h
  | p :: l, i, k, v, h => by
    rcases List.mem_cons.1 h with h | h
    · cases h; exact ⟨i, Nat.le_refl _, by simp, rfl⟩
    · obtain ⟨j, h1, h2, h3⟩ := lst_keys h
      exact ⟨j, by omega, by simp only [List.length_cons]; omega, h3⟩
theorem dlst_keys : ∀ {l : List Nat} {i : Nat} {k v : Txt}, (k, v) ∈ dlst i l → ∃ j, i ≤ j ∧ j < i + l.length ∧ k = 99 :: eight j
  | [], _, _, _, h => by cases h
  | n :: l, i, k, v, h => by
    rcases List.mem_cons.1 h with h | h
    · cases h; exact ⟨i, Nat.le_refl _, by simp, rfl⟩
    · obtain ⟨j, h1, h2, h3⟩ := dlst_keys h
      exact ⟨j, by omega, by simp only [List.length_cons]; omega, h3⟩
theorem lst_asc {c : UInt8} : ∀ {l : List Pk} {i : Nat}, i + l.length ≤ 256 → Asc (lst c i l)
  | [], _, _ => List.Pairwise.nil
  | p :: l, i, h => by
    simp only [List.length_cons] at h
    refine List.Pairwise.cons ?_ (lst_asc (by omega))
    rintro ⟨k, v⟩ hk
    obtain ⟨j, h1, h2, rfl⟩ := lst_keys hk
    show ltB ([c] ++ [UInt8.ofNat i]) ([c] ++ [UInt8.ofNat j]) = true
    rw [ltB_app _ _ rfl]
    exact Or.inr ⟨rfl, (ltB_one (by omega) (by omega)).2 (by omega)⟩
theorem dlst_asc : ∀ {l : List Nat} {i : Nat}, i + l.length ≤ 1000000 → Asc (dlst i l)
  | [], _, _ => List.Pairwise.nil
  | n :: l, i, h => by
    simp only [List.length_cons] at h
    refine List.Pairwise.cons ?_ (dlst_asc (by omega))
    rintro ⟨k, v⟩ hk
    obtain ⟨j, h1, h2, rfl⟩ := dlst_keys hk
    show ltB (99 :: eight i) (99 :: eight j) = true
    rw [ltB_cons]
    exact Or.inr ⟨rfl, ltB_eight (by omega) (by omega)⟩
theorem tlst_keys {S : RS} {k v : Txt} (h : (k, v) ∈ tlst S) : k = [116] := by
  unfold tlst at h
  split at h
  · cases h
  · rw [List.mem_singleton] at h; cases h; rfl
theorem tlst_asc (S : RS) : Asc (tlst S) := by
  unfold tlst
  split
  · exact List.Pairwise.nil
  · exact List.pairwise_singleton _ _
theorem ltB_head {a b : UInt8} (h : a < b) (x y : Txt) : ltB (a :: x) (b :: y) = true := (ltB_cons _ _ _ _).2 (Or.inl h)
theorem root_asc {S : RS} (h1 : S.stack.length ≤ 256) (h2 : S.wants.length ≤ 256) (h3 : S.done.length ≤ 1000000) : Asc (rootL S) := by
  unfold rootL Asc
  rw [List.pairwise_append, List.pairwise_append, List.pairwise_append]
  refine ⟨dlst_asc (by omega), ⟨lst_asc (by omega), ⟨lst_asc (by omega), tlst_asc S, ?_⟩, ?_⟩, ?_⟩
  · rintro ⟨k, v⟩ hk ⟨k', v'⟩ hk'
    obtain ⟨j, -, -, rfl⟩ := lst_keys hk
    obtain rfl := tlst_keys hk'
    exact ltB_head (by decide) _ _
  · rintro ⟨k, v⟩ hk ⟨k', v'⟩ hk'
    obtain ⟨j, -, -, rfl⟩ := lst_keys hk
    rcases List.mem_append.1 hk' with hk' | hk'
    · obtain ⟨j', -, -, rfl⟩ := lst_keys hk'
      exact ltB_head (by decide) _ _
    · obtain rfl := tlst_keys hk'
      exact ltB_head (by decide) _ _
  · rintro ⟨k, v⟩ hk ⟨k', v'⟩ hk'
    obtain ⟨j, -, -, rfl⟩ := dlst_keys hk
    rcases List.mem_append.1 hk' with hk' | hk'
    · obtain ⟨j', -, -, rfl⟩ := lst_keys hk'
      exact ltB_head (by decide) _ _
    · rcases List.mem_append.1 hk' with hk' | hk'
      · obtain ⟨j', -, -, rfl⟩ := lst_keys hk'
        exact ltB_head (by decide) _ _
      · obtain rfl := tlst_keys hk'
        exact ltB_head (by decide) _ _

theorem filter_none {f : KV → Bool} {l : List KV} (h : ∀ p ∈ l, f p = false) : l.filter f = [] := by
  rw [List.filter_eq_nil_iff]
  intro p hp
  rw [h p hp]; simp
theorem filter_all {f : KV → Bool} {l : List KV} (h : ∀ p ∈ l, f p = true) : l.filter f = l := List.filter_eq_self.2 h
theorem in_head {a b c : UInt8} {x y z v : Txt} : inScan (a :: x) (b :: y) (c :: z, v) = (!ltB (c :: z) (a :: x) && ltB (c :: z) (b :: y)) := by
  unfold inScan
  simp
theorem ltB_heads {a b : UInt8} (x y : Txt) : ltB (a :: x) (b :: y) = (decide (a < b) || (decide (a = b) && ltB x y)) := by
  rw [Bool.eq_iff_iff, ltB_cons]
  simp
theorem scan_letter {c d : UInt8} {l : List Pk} {i : Nat} (h : i + l.length ≤ 255) : (lst c i l).filter (inScan [d] [d, 255]) = if c = d then lst c i l else [] := by
  have hk : ∀ p ∈ lst c i l, inScan [d] [d, 255] p = decide (c = d) := by
    rintro ⟨k, v⟩ hk
    obtain ⟨j, h1, h2, rfl⟩ := lst_keys hk
    rw [in_head, ltB_heads (a := c) (b := d), ltB_heads (a := c) (b := d)]
    have e1 : ltB [UInt8.ofNat j] [255] = true := (ltB_one (a := j) (b := 255) (by omega) (by omega)).2 (by omega)
    have e2 : ltB [UInt8.ofNat j] [] = false := rfl
    rw [e1, e2]
    by_cases hcd : c = d
    · subst hcd
      have : ¬ c < c := UInt8.lt_irrefl c
      simp [this]
    · by_cases hlt : c < d
      · simp [hlt, hcd]
      · simp [hlt, hcd]
  split
  · rename_i e
    exact filter_all (fun p hp => by rw [hk p hp]; simpa using e)
  · rename_i e
    exact filter_none (fun p hp => by rw [hk p hp]; simpa using e)

end Go.Proofs.YtbjagmlbamjdbaaGreat.roots
end

section
namespace Go.Proofs.YtbjagmlbamjdbaaGreat.kvs
open Go.RowKit Go.Maps Go.My Go.ChangeMaps disks bufs wals
set_option maxRecDepth 100000

variable {w w' : World} {P : Nat → Prop} {b l q d : Nat} {X X' : DV} {V V' : LV} {m m' : List KV}

theorem wat_again (h : WAt P w w l d X V) (hc : Chg (fun _ => False) w w') : WAt P w' w' l d X V := by
  obtain ⟨⟨F, Fd, h1, h2⟩, -⟩ := h
  exact ⟨⟨F, Fd, h1.fresh hc, fun k hk => (h2 k hk).elim Or.inl (fun h => by have := h1.lt k hk; omega)⟩, Chg.refl _ _⟩
theorem wat_aside {S : Nat → Prop} (h : WAt P w w l d X V) (hc : Chg S w w') (hS : ∀ k, P k → ¬ S k) : WAt P w' w' l d X V := by
  obtain ⟨⟨F, Fd, h1, h2⟩, -⟩ := h
  have h3 : ∀ k, F k ∨ Fd k → P k := fun k hk => (h2 k hk).elim id (fun h' => by have := h1.lt k hk; omega)
  exact ⟨⟨F, Fd, h1.kept hc (fun k hk => hS k (h3 k hk)), fun k hk => Or.inl (h3 k hk)⟩, Chg.refl _ _⟩

structure KAt (P : Nat → Prop) (w : World) (b l q d : Nat) (X : DV) (V : LV) (m : List KV) : Prop where
  log : WAt P w w l d X V
  db : DbIs w b l q m
  nb : ¬ P b
  nq : ¬ P q
  lt : ∀ k, P k → k < w.heap.size
theorem DbIs.ne (h : DbIs w b l q m) : ¬ b = q := by
  intro e
  obtain ⟨es, clock, hm, -⟩ := h.map
  have := h.head
  rw [e, hm] at this
  cases this
theorem DbIs.ltb (h : DbIs w b l q m) : b < w.heap.size := lt_of_block h.head
theorem DbIs.ltq (h : DbIs w b l q m) : q < w.heap.size := h.map.lt
theorem KAt.fresh (h : KAt P w b l q d X V m) (hc : Chg (fun _ => False) w w') : KAt P w' b l q d X V m := ⟨wat_again h.log hc, h.db.fresh hc, h.nb, h.nq, fun k hk => Nat.lt_of_lt_of_le (h.lt k hk) hc.size⟩
theorem KAt.step (h : KAt P w b l q d X V m) (k : WAt P w w' l d X' V') : KAt (NowP P w w') w' b l q d X' V' m where
  log := k.now
  db := h.db.kept k.chg h.nb h.nq
  nb := fun hp => hp.1.elim h.nb (fun e => by have := h.db.ltb; omega)
  nq := fun hp => hp.1.elim h.nq (fun e => by have := h.db.ltq; omega)
  lt := fun k hk => hk.2
theorem KAt.put (h : KAt P w b l q d X V m) (hc : Chg (· = q) w w') (hm : MapAt w' q m') : KAt P w' b l q d X V m' where
  log := wat_aside h.log hc (fun k hk e => h.nq (by rw [← e]; exact hk))
  db := ⟨hc.at h.db.head h.db.ne, hm⟩
  nb := h.nb
  nq := h.nq
  lt := fun k hk => Nat.lt_of_lt_of_le (h.lt k hk) hc.size
structure KPost (P : Nat → Prop) (w w' : World) (b l q d : Nat) (X : DV) (V : LV) (m : List KV) : Prop where
  at' : ∃ P', KAt P' w' b l q d X V m ∧ ∀ k, P' k → P k ∨ w.heap.size ≤ k
  chg : Chg (fun k => P k ∨ k = q) w w'
theorem KAt.same (h : KAt P w b l q d X V m) (hc : Chg (fun _ => False) w w') : KPost P w w' b l q d X V m := ⟨⟨P, h.fresh hc, fun _ h => Or.inl h⟩, hc.mono (fun _ _ h => h.elim)⟩
theorem KAt.post (h : KAt P w b l q d X V m) (k : WAt P w w' l d X' V') : KPost P w w' b l q d X' V' m := ⟨⟨_, h.step k, fun _ hk => hk.1⟩, k.chg.mono (fun _ _ h => Or.inl h)⟩
theorem KPost.trans {w1 : World} {X1 : DV} {V1 : LV} {m1 : List KV} (h : KPost P w w1 b l q d X1 V1 m1) (k : ∀ P', KAt P' w1 b l q d X1 V1 m1 → KPost P' w1 w' b l q d X V m) : KPost P w w' b l q d X V m := by
  obtain ⟨⟨P1, h1, h2⟩, h3⟩ := h
  obtain ⟨⟨P2, k1, k2⟩, k3⟩ := k P1 h1
  refine ⟨⟨P2, k1, fun j hj => (k2 j hj).elim (h2 j) (fun e => Or.inr (Nat.le_trans h3.size e))⟩, h3.trans k3 (fun j hj hs => ?_)⟩
  rcases hs with e | e
  · exact (h2 j e).elim Or.inl (fun h => by omega)
  · exact Or.inr e

theorem KPost.since {w1 : World} (h : KPost P w1 w' b l q d X V m) (hc : Chg (fun _ => False) w w1) : KPost P w w' b l q d X V m := by
  obtain ⟨⟨P1, h1, h2⟩, h3⟩ := h
  exact ⟨⟨P1, h1, fun j hj => (h2 j hj).imp id (fun e => Nat.le_trans hc.size e)⟩, (hc.mono (S' := fun k => P k ∨ k = q) (fun _ _ e => e.elim)).trans h3 (fun _ _ e => e)⟩

theorem kat_len (h : KAt P w b l q d X V m) : Calls Tryz.prog 100 #[.pointer (some ⟨b, 0, none⟩)] w fun e w' => e = .returned (.int .i64 (m.length : Int)) ∧ w = w' := len_any w h.db
theorem kat_get (h : KAt P w b l q d X V m) (k : Txt) (hk : k.length ≤ maxLen) : Calls Tryz.prog 99 #[.pointer (some ⟨b, 0, none⟩), strV k] w fun e w' => e = .returned (.tuple #[strV ((mget m k).getD []), .bool (mget m k).isSome]) ∧ w = w' := get_any w h.db k hk
theorem kat_scan (h : KAt P w b l q d X V m) (hn : m.length ≤ 1000000) (fr to : Txt) : Calls Tryz.prog 97 #[.pointer (some ⟨b, 0, none⟩), strV fr, strV to] w fun e w' => ∃ v, e = .returned v ∧ Puts w' w.heap.size v ((scanF m fr to).map ofKV) ∧ Chg (fun _ => False) w w' := scan_any w h.db hn fr to

theorem snapF_len (m : List KV) : (snapF m).length ≤ m.length + 1 := by
  have h1 := snap_out_len ((sortF m).map ofKV) ⟨[], [], 0⟩
  have h2 : ∀ x : Sn, x.close.out.length ≤ x.out.length + 1 := fun x => by
    unfold Sn.close
    split
    · exact Nat.le_succ _
    · simp
  have h3 := h2 (snapL ((sortF m).map ofKV))
  rw [List.length_map, sortF_len] at h1
  show (snapL ((sortF m).map ofKV)).close.out.length ≤ _
  unfold snapL at h3 ⊢
  simp only [List.length_nil] at h1
  omega

end Go.Proofs.YtbjagmlbamjdbaaGreat.kvs
end

section
namespace Go.Proofs.YtbjagmlbamjdbaaGreat.kvs
open Go.RowKit Go.Maps Go.My Go.ChangeMaps disks bufs wals
set_option maxRecDepth 100000

variable {w w' : World} {P : Nat → Prop} {b l q d : Nat} {X X' : DV} {V V' : LV} {m m' : List KV}

set_option maxHeartbeats 1000000 in
theorem do_refuse (w : World) (h : KAt P w b l q d X V m) {B : Nat} {v : Value} {ps : List PV} (hp : Puts w B v ps) (hl : ps.length ≤ 1000000) (he : (encF ps).2 ≠ 0) :
    Calls Tryz.prog 33 #[.pointer (some ⟨b, 0, none⟩), v] w fun e w' => e = .returned (.int .i64 ((encF ps).2 : Int)) ∧ KPost P w w' b l q d X V m := by
  have HNo := Lib.hid (db_no w h.db)
  have HEnc := Lib.hid (encode_any w hp hl)
  have H := Lib.hid h
  obtain ⟨E, hE⟩ : ∃ E, encF ps = E := ⟨_, rfl⟩
  rw [hE] at HEnc he ⊢
  obtain ⟨t, n⟩ := E
  simp only at HEnc he ⊢
  have hei : ¬ (n : Int) = 0 := by omega
  clear h hp hE
  go_enter Tryz.func33, Tryz.ntmps33
  go_wp2_with (first
    | (go_at_call 65; refine HNo.out.mono ?_; rintro e w' ⟨rfl, rfl⟩)
    | (go_at_call 66; refine HEnc.out.mono ?_; rintro e w1 ⟨rfl, hc1⟩; have HC1 := Lib.hid hc1; clear hc1))
  go_ret
  exact ⟨rfl, H.out.same HC1.out⟩

def Far (P : Nat → Prop) (w : World) (q : Nat) (v : Value) : Prop := ∀ g, v.ownBlock = some g → ¬ P g ∧ g ≠ q

set_option maxHeartbeats 2000000 in
theorem do_add (w : World) (h : KAt P w b l q d X V m) (hV : V.Ok X.B.length) (hf : X.fuse ≤ 9223372036854775807) (hL : ∀ j, (X.L j).length < 500000) {B : Nat} {v : Value} {ps : List PV} (hp : Puts w B v ps) (hl : ps.length ≤ 1000000) (hv : Far P w q v) {t : Txt} (he : encF ps = (t, 0))
    (hadd : addF X.B.length V t = (0, V')) (hV' : V'.Ok X.B.length) :
    Calls Tryz.prog 33 #[.pointer (some ⟨b, 0, none⟩), v] w fun e w' => e = .returned (.int .i64 (syncF X V').1) ∧ KPost P w w' b l q d (syncF X V').2.1 (syncF X V').2.2 (if (syncF X V').1 = 0 then applyF m ps else m) := by
  have HNo := Lib.hid (db_no w h.db)
  have HEnc := Lib.hid (encode_any w hp hl)
  rw [he] at HEnc
  have H := Lib.hid h
  have HP := Lib.hid hp
  have hok := encF_ok he
  have ha : ∀ w1, Chg (fun _ => False) w w1 → Calls Tryz.prog 67 #[.pointer (some ⟨l, 0, none⟩), strV t] w1 fun e w' => e = .returned (.int .i64 0) ∧ WAt P w1 w' l d X V' := fun w1 hc => by
    have := wat_add (wat_again h.log hc) hV t (by have := hok.2.2.2.2; omega)
    rw [hadd] at this
    exact this
  obtain ⟨S, hS⟩ : ∃ S, syncF X V' = S := ⟨_, rfl⟩
  have hsy : ∀ w1 w2, WAt P w1 w2 l d X V' → Calls Tryz.prog 68 #[.pointer (some ⟨l, 0, none⟩)] w2 fun e w' => e = .returned (.int .i64 S.1) ∧ WAt P w1 w' l d S.2.1 S.2.2 := fun w1 w2 hw => by
    have := wat_sync hw hV' hf hL
    rw [hS] at this
    exact this
  rw [hS]
  have HAdd := Lib.hid ha
  have HSy := Lib.hid hsy
  have HFar := Lib.hid hv
  have HKey := Lib.hid (show ∀ p ∈ ps, p.key.length ≤ maxLen from fun p hp => by have := (may_key (hok.2.1 p hp)).2.1; unfold maxLen; omega)
  have c0 : ∀ w1, Chg P w w1 → w1.cell? ⟨b, 0, none⟩ = some (.pointer (some ⟨l, 0, none⟩)) ∧ w1.cell? ⟨b, 1, none⟩ = some (.map (some q)) := fun w1 hc => ⟨hc.cell (cell_of_block h.db.head rfl) h.nb, hc.cell (cell_of_block h.db.head rfl) h.nb⟩
  have HC0 := Lib.hid c0
  clear h hp ha hsy hV hV' hf hL hadd he hok hS hv c0
  obtain ⟨z, X3, V3⟩ := S
  simp only at HSy ⊢
  by_cases hz : z = 0
  · subst hz
    rw [if_pos rfl]
    go_enter Tryz.func33, Tryz.ntmps33
    go_wp2_with (first
      | (go_at_call 65; refine HNo.out.mono ?_; rintro e w' ⟨rfl, rfl⟩)
      | (go_at_call 66; refine HEnc.out.mono ?_; rintro e w1 ⟨rfl, hc1⟩; obtain ⟨k0, -⟩ := HC0.out _ (hc1.mono (fun _ _ e => e.elim)); have HC1 := Lib.hid hc1; clear hc1)
      | (go_at_call 67; refine (HAdd.out _ HC1.out).mono ?_; rintro e w2 ⟨rfl, hw2⟩; obtain ⟨k1, -⟩ := HC0.out _ ((HC1.out.mono (fun _ _ e => e.elim)).trans hw2.chg (fun _ _ e => e)); have HW2 := Lib.hid hw2; clear hw2)
      | (go_at_call 68; refine (HSy.out _ _ HW2.out).mono ?_; rintro e w3 ⟨rfl, hw3⟩; obtain ⟨-, k2⟩ := HC0.out _ ((HC1.out.mono (fun _ _ e => e.elim)).trans hw3.chg (fun _ _ e => e)); have HW3 := Lib.hid hw3; clear hw3)
      | (go_at_call 61; refine (apply_any _ ((H.out.fresh HC1.out).step HW3.out).db.map ((HP.out.kept HC1.out (fun _ _ e => e)).kept HW3.out.chg (fun g hg => (HFar.out g hg).1)) HKey.out (by omega)).mono ?_; rintro e w4 ⟨rfl, hm4, hc4⟩; have HM4 := Lib.hid hm4; have HC4 := Lib.hid hc4; clear hm4 hc4))
    go_ret
    refine ⟨rfl, KPost.since ?_ HC1.out⟩
    have hk := ((H.out.fresh HC1.out).step HW3.out).put HC4.out HM4.out
    exact ⟨⟨_, hk, fun _ hj => hj.1⟩, (HW3.out.chg.mono (S' := fun k => P k ∨ k = q) (fun _ _ e => Or.inl e)).trans HC4.out (fun _ _ e => Or.inr e)⟩
  · rw [if_neg hz]
    go_enter Tryz.func33, Tryz.ntmps33
    go_wp2_with (first
      | (go_at_call 65; refine HNo.out.mono ?_; rintro e w' ⟨rfl, rfl⟩)
      | (go_at_call 66; refine HEnc.out.mono ?_; rintro e w1 ⟨rfl, hc1⟩; obtain ⟨k0, -⟩ := HC0.out _ (hc1.mono (fun _ _ e => e.elim)); have HC1 := Lib.hid hc1; clear hc1)
      | (go_at_call 67; refine (HAdd.out _ HC1.out).mono ?_; rintro e w2 ⟨rfl, hw2⟩; obtain ⟨k1, -⟩ := HC0.out _ ((HC1.out.mono (fun _ _ e => e.elim)).trans hw2.chg (fun _ _ e => e)); have HW2 := Lib.hid hw2; clear hw2)
      | (go_at_call 68; refine (HSy.out _ _ HW2.out).mono ?_; rintro e w3 ⟨rfl, hw3⟩; have HW3 := Lib.hid hw3; clear hw3))
    go_ret
    exact ⟨rfl, ((H.out.fresh HC1.out).post HW3.out).since HC1.out⟩

end Go.Proofs.YtbjagmlbamjdbaaGreat.kvs
end

section
namespace Go.Proofs.YtbjagmlbamjdbaaGreat.kvs
open Go.RowKit Go.Maps Go.My Go.ChangeMaps disks bufs wals
set_option maxRecDepth 100000

variable {w w' : World} {P : Nat → Prop} {b l q d : Nat} {X X' : DV} {V V' : LV} {m m' : List KV}

theorem applyF_len : ∀ (l : List PV) (m : List KV), (applyF m l).length ≤ m.length + l.length := by
  intro l
  induction l with
  | nil => intro m; simp [applyF]
  | cons p l ih =>
    intro m
    have h5 : (doneF m p).length ≤ m.length + 1 := by
      unfold doneF mdel mput
      split
      · exact Nat.le_succ_of_le (List.length_filter_le _ m)
      · split <;> simp
    have := ih (doneF m p)
    show (applyF (doneF m p) l).length ≤ _
    simp only [List.length_cons]
    omega
theorem again_is {m : List KV} (hn : NoDup m) : applyF [] ((sortF m).map ofKV) = sortF m := by
  rw [apply_puts _ _ (by simp) (sortF_asc hn).nodup, List.nil_append]

theorem KAt.aside {S : Nat → Prop} (h : KAt P w b l q d X V m) (hc : Chg S w w') (hS : ∀ k, k < w.heap.size → ¬ S k) : KAt P w' b l q d X V m :=
  h.fresh (hc.mono (fun k hk hs => hS k hk hs))

set_option maxHeartbeats 2000000 in
theorem do_full (w : World) (h : KAt P w b l q d X V m) (hV : V.Ok X.B.length) (hf : X.fuse ≤ 9223372036854775807) (hL : ∀ j, (X.L j).length < 500000) (hm : Mays m) (hn : m.length ≤ 90000) {B : Nat} {v : Value} {ps : List PV} (hp : Puts w B v ps) (hl : ps.length ≤ 1000000) (hv : Far P w q v) {t : Txt} (he : encF ps = (t, 0))
    (hadd : addF X.B.length V t = (7, V)) :
    Calls Tryz.prog 33 #[.pointer (some ⟨b, 0, none⟩), v] w fun e w' => e = .returned (.int .i64 (resetF X V (snapF (applyF (sortF m) ps))).1) ∧ KPost P w w' b l q d (resetF X V (snapF (applyF (sortF m) ps))).2.1 (resetF X V (snapF (applyF (sortF m) ps))).2.2 (if (resetF X V (snapF (applyF (sortF m) ps))).1 = 0 then applyF m ps else m) := by
  have HNo := Lib.hid (db_no w h.db)
  have HEnc := Lib.hid (encode_any w hp hl)
  rw [he] at HEnc
  have H := Lib.hid h
  have HP := Lib.hid hp
  have hok := encF_ok he
  have hnd : NoDup m := h.db.map.nodup
  have ha : ∀ w1, Chg (fun _ => False) w w1 → Calls Tryz.prog 67 #[.pointer (some ⟨l, 0, none⟩), strV t] w1 fun e w' => e = .returned (.int .i64 7) ∧ WAt P w1 w' l d X V := fun w1 hc => by
    have := wat_add (wat_again h.log hc) hV t (by have := hok.2.2.2.2; omega)
    rw [hadd] at this
    exact this
  have hmn : Mays (applyF (sortF m) ps) := mays_apply (hm.perm (sortF_perm m).symm) ps hok.2.1
  have hln : (applyF (sortF m) ps).length ≤ 100000 := by have h1 := applyF_len ps (sortF m); rw [sortF_len] at h1; have := hok.2.2.1; omega
  have HAdd := Lib.hid ha
  have HFar := Lib.hid hv
  have HMn := Lib.hid hmn
  have HLn := Lib.hid hln
  have HNd := Lib.hid hnd
  have HKey := Lib.hid (show ∀ p ∈ ps, p.key.length ≤ maxLen from fun p hp => by have := (may_key (hok.2.1 p hp)).2.1; unfold maxLen; omega)
  have HKeyM := Lib.hid (show ∀ p ∈ (sortF m).map ofKV, p.key.length ≤ maxLen from fun p hp => by
    obtain ⟨x, hx, rfl⟩ := List.mem_map.1 hp
    have := (may_key (hm x ((sortF_perm m).mem_iff.1 hx))).2.1
    show x.1.length ≤ maxLen
    have h2 : (ofKV x).key.length = x.1.length := rfl
    unfold maxLen
    omega)
  have HFL := Lib.hid (And.intro hV (And.intro hf hL))
  have HMl := Lib.hid hn
  have c0 : ∀ w1, Chg P w w1 → w1.cell? ⟨b, 0, none⟩ = some (.pointer (some ⟨l, 0, none⟩)) ∧ w1.cell? ⟨b, 1, none⟩ = some (.map (some q)) := fun w1 hc => ⟨hc.cell (cell_of_block h.db.head rfl) h.nb, hc.cell (cell_of_block h.db.head rfl) h.nb⟩
  have HC0 := Lib.hid c0
  clear h hp ha hV hf hL hadd he hok hv c0 hmn hln hnd hm hn
  obtain ⟨R, hR⟩ : ∃ R, resetF X V (snapF (applyF (sortF m) ps)) = R := ⟨_, rfl⟩
  rw [hR]
  have HR := Lib.hid hR
  obtain ⟨z, X3, V3⟩ := R
  simp only
  clear hR
  have hmm := @run_makeMap Tryz.prog
  go_enter Tryz.func33, Tryz.ntmps33
  go_wp2_with (first
    | (go_at_call 65; refine HNo.out.mono ?_; rintro e w' ⟨rfl, rfl⟩)
    | (go_at_call 66; refine HEnc.out.mono ?_; rintro e w1 ⟨rfl, hc1⟩; obtain ⟨k0, -⟩ := HC0.out _ (hc1.mono (fun _ _ e => e.elim)); have HC1 := Lib.hid hc1; clear hc1)
    | (go_at_call 67; refine (HAdd.out _ HC1.out).mono ?_; rintro e w2 ⟨rfl, hw2⟩
       have hc3 : Chg (fun _ => False) w2 (w2.alloc (.map #[] 0)) := (Chg.refl _ _).alloc _
       obtain ⟨-, k1⟩ := HC0.out _ (((HC1.out.mono (fun _ _ e => e.elim)).trans hw2.chg (fun _ _ e => e)).trans (hc3.mono (S' := P) (fun _ _ e => e.elim)) (fun _ _ e => e))
       have HK2 := Lib.hid (((H.out.fresh HC1.out).step hw2))
       have HW2 := Lib.hid hw2
       have HC3 := Lib.hid hc3
       have hnm : MapAt (w2.alloc (.map #[] 0)) w2.heap.size [] := MapIs.made sKey strV (block_alloc_new _ _)
       have HNm := Lib.hid hnm
       clear hw2 hc3 hnm)
    | (go_at_call 69; refine (sorted_any _ (HK2.out.db.map.kept HC3.out id) (by have := HMl.out; omega)).mono ?_; rintro e w4 ⟨lv, rfl, hp4, hc4⟩; have HP4 := Lib.hid hp4; have HC4 := Lib.hid hc4; clear hp4 hc4)
    | (go_at_call 61; refine (apply_any _ (HNm.out.kept HC4.out id) HP4.out HKeyM.out (by rw [List.length_map, sortF_len]; have := HMl.out; omega)).mono ?_; rintro e w5 ⟨rfl, hm5, hc5⟩; rw [again_is HNd.out] at hm5
       have hpv := ((((HP.out.kept HC1.out (fun _ _ e => e)).kept HW2.out.chg (fun g hg => (HFar.out g hg).1)).kept HC3.out (fun _ _ e => e)).kept HC4.out (fun _ _ e => e)).kept hc5 (fun g hg e => by have := (HP.out.lt hg).2; have := HC1.out.size; have := HW2.out.chg.size; omega)
       have HPv := Lib.hid hpv
       have hk5 := ((HK2.out.fresh HC3.out).fresh HC4.out)
       have hc25 : Chg (fun k => w2.heap.size ≤ k) w2 w5 := ((HC3.out.mono (fun _ _ e => e.elim)).trans (HC4.out.mono (S' := fun k => w2.heap.size ≤ k) (fun _ _ e => e.elim)) (fun _ _ e => e)).trans (hc5.mono (S' := fun k => w2.heap.size ≤ k) (fun k _ e => Nat.le_of_eq e.symm)) (fun _ _ e => e)
       have HC25 := Lib.hid hc25
       have HM5 := Lib.hid hm5; have HC5 := Lib.hid hc5; clear HNm hm5 hc5 hpv hk5 hc25)
    | (go_at_call 61; refine (apply_any _ HM5.out HPv.out HKey.out (by omega)).mono ?_; rintro e w6 ⟨rfl, hm6, hc6⟩
       have hc26 : Chg (fun k => w2.heap.size ≤ k) w2 w6 := HC25.out.trans (hc6.mono (S' := fun k => w2.heap.size ≤ k) (fun k _ e => Nat.le_of_eq e.symm)) (fun _ _ e => e)
       have hk6 := HK2.out.aside hc26 (fun k hk hs => by omega)
       have n0 := cell_of_block (i := 0) hk6.db.head rfl
       have HK6 := Lib.hid hk6
       have HC26 := Lib.hid hc26
       have HM6 := Lib.hid hm6
       clear hm6 hc6 hk6 hc26))
  have hd : Chg (fun _ => False) w6 w6.drew := (Chg.refl _ _).drew
  have HSnap := Lib.hid (snapshot_any w6.drew (HM6.out.kept hd id) HMn.out HLn.out)
  have HD := Lib.hid hd
  have hrs : ∀ (w7 : World) (u : Value), w7.ownsRow w6.drew.heap.size 9 1 u (snapF (applyF (sortF m) ps)).length ((snapF (applyF (sortF m) ps)).map strV) → Chg (fun _ => False) w6.drew w7 →
      Calls Tryz.prog 70 #[.pointer (some ⟨l, 0, none⟩), u] w7 fun e w' => e = .returned (.int .i64 z) ∧ WAt (NowP P w1 w2) w7 w' l d X3 V3 := fun w7 u ho hc => by
    have := wat_reset (wat_again HK6.out.log (hd.trans' hc)) HFL.out.1 HFL.out.2.1 HFL.out.2.2 (snapF (applyF (sortF m) ps)) u (SlAt.of_own ho) (fun g hg => ⟨fun hp => by have h1 := HK6.out.lt g hp; have h2 := (ho.lt g hg).1; have : w6.drew.heap.size = w6.heap.size := rfl; omega, (ho.lt g hg).2⟩) (by have := snapF_len (applyF (sortF m) ps); have := HLn.out; omega) (fun r hr => by have := snap_short HM6.out.nodup HMn.out r hr; omega)
    rw [HR.out] at this
    exact this
  have HRs := Lib.hid hrs
  clear hd hrs
  go_region_held3 (fun w' => w'.cell? ⟨b, 0, none⟩ = some (.pointer (some ⟨l, 0, none⟩))) (go_keep)
    (first
    | (go_at_call 71; refine HSnap.out.mono ?_; rintro e w7 ⟨v7, rfl, ho7, hc7⟩; have e0 := hc7.cell (show w6.drew.cell? ⟨b, 0, none⟩ = _ from n0) id; have HO7 := Lib.hid ho7; have HC7 := Lib.hid hc7; clear ho7 hc7)
    | (go_at_call 70; refine (HRs.out _ _ HO7.out HC7.out).mono ?_; rintro e w8 ⟨rfl, hw8⟩; have f0 := hw8.chg.cell e0 HK6.out.nb; have HW8 := Lib.hid hw8; clear hw8))
  have hk7 := HK6.out.fresh (HD.out.trans' HC7.out)
  have hk8 := hk7.step HW8.out
  have hc12 : Chg (fun k => P k ∨ k = q) w1 w2 := HW2.out.chg.mono (fun _ _ e => Or.inl e)
  have hc16 : Chg (fun k => P k ∨ k = q) w1 w6 := hc12.trans HC26.out (fun k hk hs => by have := hc12.size; omega)
  have hc18 : Chg (fun k => P k ∨ k = q) w1 w8 := (hc16.trans' ((HD.out.trans' HC7.out).mono (fun _ _ e => e.elim))).trans HW8.out.chg (fun k hk hs => (hs.1).elim Or.inl (fun e => by omega))
  have m1 := cell_of_block (i := 1) hk8.db.head rfl
  have HK8 := Lib.hid hk8
  have HC18 := Lib.hid hc18
  clear hk7 hk8 hc12 hc16 hc18
  have hs17 : w1.heap.size ≤ w7.heap.size := Nat.le_trans HW2.out.chg.size (Nat.le_trans HC26.out.size (HD.out.trans' HC7.out).size)
  have hin : ∀ j, NowP (NowP P w1 w2) w7 w8 j → P j ∨ w1.heap.size ≤ j := fun j hj => hj.1.elim (fun e => e.1) (fun e => Or.inr (Nat.le_trans hs17 e))
  have hp8 := (HP.out.kept HC1.out (fun _ _ e => e)).kept HC18.out (fun g hg hs => hs.elim (HFar.out g hg).1 (HFar.out g hg).2)
  have HIn := Lib.hid hin
  have HP8 := Lib.hid hp8
  clear hs17 hin hp8
  by_cases hz : z = 0
  · subst hz
    go_wp2_with (first
      | (go_at_call 61; refine (apply_any _ HK8.out.db.map HP8.out HKey.out (by omega)).mono ?_; rintro e w9 ⟨rfl, hm9, hc9⟩; have HM9 := Lib.hid hm9; have HC9 := Lib.hid hc9; clear hm9 hc9))
    go_ret
    exact ⟨rfl, KPost.since ⟨⟨_, HK8.out.put HC9.out HM9.out, HIn.out⟩, HC18.out.trans HC9.out (fun _ _ e => Or.inr e)⟩ HC1.out⟩
  · go_wp2_with fail
    go_ret
    exact ⟨rfl, KPost.since ⟨⟨_, HK8.out, HIn.out⟩, HC18.out⟩ HC1.out⟩

end Go.Proofs.YtbjagmlbamjdbaaGreat.kvs
end

section
namespace Go.Proofs.YtbjagmlbamjdbaaGreat.roots
open Go.My kvs

theorem dlst_letter {d : UInt8} (hd : (99 : UInt8) < d) (y : Txt) (l : List Nat) (i : Nat) : (dlst i l).filter (inScan [d] y) = [] := by
  refine filter_none ?_
  rintro ⟨k, v⟩ hk
  obtain ⟨j, -, -, rfl⟩ := dlst_keys hk
  have : ltB (99 :: eight j) [d] = true := ltB_head hd _ _
  unfold inScan
  rw [this]; rfl
theorem tlst_letter {d : UInt8} (hd : d < 116) (S : RS) : (tlst S).filter (inScan [d] [d, 255]) = [] := by
  refine filter_none ?_
  rintro ⟨k, v⟩ hk
  obtain rfl := tlst_keys hk
  have : ltB [116] [d, 255] = false := ltB_asymm (ltB_head hd _ _)
  unfold inScan
  rw [this]; simp
theorem scan_p {m : List KV} {S : RS} (h : sortF m = rootL S) (h1 : S.stack.length ≤ 200) (h2 : S.wants.length ≤ 200) : scanF m [112] [112, 255] = lst 112 0 S.stack := by
  unfold scanF
  rw [h]
  unfold rootL
  rw [List.filter_append, List.filter_append, List.filter_append, dlst_letter (by decide), scan_letter (by omega), scan_letter (by omega), tlst_letter (by decide), if_pos rfl, if_neg (by decide)]
  simp
theorem scan_q {m : List KV} {S : RS} (h : sortF m = rootL S) (h1 : S.stack.length ≤ 200) (h2 : S.wants.length ≤ 200) : scanF m [113] [113, 255] = lst 113 0 S.wants := by
  unfold scanF
  rw [h]
  unfold rootL
  rw [List.filter_append, List.filter_append, List.filter_append, dlst_letter (by decide), scan_letter (by omega), scan_letter (by omega), tlst_letter (by decide), if_pos rfl, if_neg (by decide)]
  simp
theorem scan_c {m : List KV} {S : RS} (h : sortF m = rootL S) : scanF m [99] [100] = dlst 0 S.done := by
  unfold scanF
  rw [h]
  unfold rootL
  rw [List.filter_append, List.filter_append, List.filter_append]
  have e1 : (dlst 0 S.done).filter (inScan [99] [100]) = dlst 0 S.done := by
    refine filter_all ?_
    rintro ⟨k, v⟩ hk
    obtain ⟨j, -, -, rfl⟩ := dlst_keys hk
    have h1 : ltB (99 :: eight j) [100] = true := ltB_head (by decide) _ _
    have h2 : ltB (99 :: eight j) [99] = false := by
      rw [ltB_heads (a := 99) (b := 99)]
      have : ltB (eight j) [] = false := by cases eight j <;> rfl
      rw [this]; decide
    unfold inScan
    rw [h1, h2]; simp
  have e2 : ∀ (c : UInt8), (100 : UInt8) < c → ∀ l i, (lst c i l).filter (inScan [99] [100]) = [] := by
    intro c hc l i
    refine filter_none ?_
    rintro ⟨k, v⟩ hk
    obtain ⟨j, -, -, rfl⟩ := lst_keys hk
    have : ltB [c, UInt8.ofNat j] [100] = false := ltB_asymm (ltB_head hc _ _)
    unfold inScan
    rw [this]; simp
  have e3 : (tlst S).filter (inScan [99] [100]) = [] := by
    refine filter_none ?_
    rintro ⟨k, v⟩ hk
    obtain rfl := tlst_keys hk
    rfl
  rw [e1, e2 112 (by decide), e2 113 (by decide), e3]
  simp

def delP (k : Txt) : PV := ⟨k, [], true⟩
theorem puts_get : ∀ (B m : List KV) (k : Txt), NoDup B → mget (applyF m (B.map ofKV)) k = (mget B k).or (mget m k)
  | [], m, k, _ => by simp [applyF]; rfl
  | p :: B, m, k, h => by
    unfold NoDup at h
    rw [List.map_cons, List.nodup_cons] at h
    show mget (applyF (doneF m (ofKV p)) (B.map ofKV)) k = _
    rw [puts_get B _ k h.2, doneF_get, mget_cons]
    show (mget B k).or (if k = p.1 then some p.2 else mget m k) = _
    by_cases hk : p.1 = k
    · have hn : mget B k = none := by
        cases hb : mget B k with
        | none => rfl
        | some v => exact absurd (List.mem_map.2 ⟨(k, v), mget_mem hb, by simp [hk]⟩) h.1
      rw [if_pos hk.symm, if_pos hk, hn]; rfl
    · rw [if_neg (fun e => hk e.symm), if_neg hk]
theorem dels_get : ∀ (ks : List Txt) (m : List KV) (k : Txt), mget (applyF m (ks.map delP)) k = if k ∈ ks then none else mget m k
  | [], m, k => by simp [applyF]
  | d :: ks, m, k => by
    show mget (applyF (doneF m (delP d)) (ks.map delP)) k = _
    rw [dels_get ks _ k, doneF_get]
    show (if k ∈ ks then none else if k = d then none else mget m k) = _
    by_cases h1 : k ∈ ks
    · rw [if_pos h1, if_pos (by simp [h1])]
    · rw [if_neg h1]
      by_cases h2 : k = d
      · rw [if_pos h2, if_pos (by simp [h2])]
      · rw [if_neg h2, if_neg (by simp [h1, h2])]
theorem mget_append : ∀ (a b : List KV) (k : Txt), mget (a ++ b) k = (mget a k).or (mget b k)
  | [], b, k => by simp; rfl
  | p :: a, b, k => by
    rw [List.cons_append, mget_cons, mget_cons, mget_append a b k]
    split <;> simp
theorem mget_none {l : List KV} {k : Txt} (h : ∀ v, (k, v) ∉ l) : mget l k = none := by
  cases hg : mget l k with
  | none => rfl
  | some v => exact absurd (mget_mem hg) (h v)
theorem sort_is {m : List KV} {S : RS} (hn : NoDup m) (h1 : S.stack.length ≤ 256) (h2 : S.wants.length ≤ 256) (h3 : S.done.length ≤ 1000000) (h : ∀ k, mget m k = mget (rootL S) k) : sortF m = rootL S :=
  asc_unique (sortF_asc hn) (root_asc h1 h2 h3) ((sortF_perm m).trans (perm_of_get hn (root_asc h1 h2 h3).nodup h))
theorem get_is {m : List KV} {S : RS} (hn : NoDup m) (h : sortF m = rootL S) (k : Txt) : mget m k = mget (rootL S) k := by rw [← h, sortF_get hn]

def lkeys (c : UInt8) (i n : Nat) : List Txt := (List.range' i n).map (fun j => [c, UInt8.ofNat j])
theorem mget_lst_key {c : UInt8} : ∀ {l : List Pk} {i : Nat} {k : Txt}, (mget (lst c i l) k).isSome = true ↔ k ∈ lkeys c i l.length
  | [], i, k => by simp [lst, lkeys]; rfl
  | p :: l, i, k => by
    have ih := mget_lst_key (c := c) (l := l) (i := i + 1) (k := k)
    rw [lst, mget_cons]
    have e : lkeys c i (p :: l).length = [c, UInt8.ofNat i] :: lkeys c (i + 1) l.length := by
      unfold lkeys
      rw [List.length_cons, List.range'_succ, List.map_cons]
    rw [e, List.mem_cons]
    simp only
    by_cases h : [c, UInt8.ofNat i] = k
    · rw [if_pos h]
      exact ⟨fun _ => Or.inl h.symm, fun _ => rfl⟩
    · rw [if_neg h, ih]
      exact ⟨Or.inr, fun h' => h'.resolve_left (fun e => h e.symm)⟩

def stageB (n : Nat) (l : List Pk) : List PV := ofKV ([116], eight n ++ [UInt8.ofNat l.length]) :: (lst 113 0 l).map ofKV
theorem stage_is {m : List KV} {S : RS} {n : Nat} {l : List Pk} (hn : NoDup m) (h : sortF m = rootL S) (h0 : S.staged = 0) (hw : S.wants = []) (hn0 : n ≠ 0) (h1 : S.stack.length ≤ 200) (h2 : l.length ≤ 200) (h3 : S.done.length ≤ 1000) :
    sortF (applyF m (stageB n l)) = rootL ⟨S.stack, n, l, S.done⟩ := by
  refine sort_is (applyF_nodup hn _) (by show S.stack.length ≤ 256; omega) (by show l.length ≤ 256; omega) (by show S.done.length ≤ 1000000; omega) (fun k => ?_)
  have hB : NoDup (([116], eight n ++ [UInt8.ofNat l.length]) :: lst 113 0 l) := by
    have ha := (lst_asc (c := 113) (l := l) (i := 0) (by omega)).nodup
    unfold NoDup at ha ⊢
    rw [List.map_cons, List.nodup_cons]
    refine ⟨fun hm => ?_, ha⟩
    obtain ⟨⟨k, v⟩, hk, e⟩ := List.mem_map.1 hm
    obtain ⟨j, -, -, rfl⟩ := lst_keys hk
    simp at e
  have e1 : stageB n l = (([116], eight n ++ [UInt8.ofNat l.length]) :: lst 113 0 l).map ofKV := rfl
  rw [e1, puts_get _ _ _ hB, get_is hn h]
  unfold rootL tlst tval
  rw [hw, h0, if_pos rfl]
  simp only
  rw [if_neg hn0]
  simp only [mget_append, mget_cons]
  have hnil : mget ([] : List KV) k = none := rfl
  simp only [lst, hnil]
  by_cases ht : [116] = k
  · rw [if_pos ht, if_pos ht]
    have d1 : mget (dlst 0 S.done) k = none := mget_none (fun v hv => by obtain ⟨j, -, -, e⟩ := dlst_keys hv; rw [← ht] at e; simp at e)
    have d2 : mget (lst 112 0 S.stack) k = none := mget_none (fun v hv => by obtain ⟨j, -, -, e⟩ := lst_keys hv; rw [← ht] at e; simp at e)
    have d3 : mget (lst 113 0 l) k = none := mget_none (fun v hv => by obtain ⟨j, -, -, e⟩ := lst_keys hv; rw [← ht] at e; simp at e)
    rw [d1, d2, d3]; rfl
  · rw [if_neg ht, if_neg ht]
    cases hq : mget (lst 113 0 l) k with
    | none => cases mget (dlst 0 S.done) k <;> cases mget (lst 112 0 S.stack) k <;> rfl
    | some v =>
      obtain ⟨j, -, -, e⟩ := lst_keys (mget_mem hq)
      have d1 : mget (dlst 0 S.done) k = none := mget_none (fun v hv => by obtain ⟨j', -, -, e'⟩ := dlst_keys hv; rw [e] at e'; simp at e')
      have d2 : mget (lst 112 0 S.stack) k = none := mget_none (fun v hv => by obtain ⟨j', -, -, e'⟩ := lst_keys hv; rw [e] at e'; simp at e')
      rw [d1, d2]; rfl

end Go.Proofs.YtbjagmlbamjdbaaGreat.roots
end
