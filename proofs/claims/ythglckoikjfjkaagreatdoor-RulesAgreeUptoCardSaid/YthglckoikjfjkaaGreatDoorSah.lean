/- Joined out of: PxA PxB PxC PxD. -/
import Derived.Test.YthglckoikjfjkaaGreatDoorSag
import Derived.Test.YthglckoikjfjkaaGreatDoorSaf
set_option linter.unusedVariables false
set_option linter.unusedSimpArgs false

/- Is a name told twice? (twice): the walk. -/
namespace Go.Proofs.YthglckoikjfjkaaGreatDoor
open Go.RowKit
open Go.ChangeMaps (setBlock)
attribute [local go_sem ↓] Go.wp_at_zero Go.wp_at_succ

/- Names as they come. -/
def dupG : List ByteArray → List ByteArray → Bool
  | _, [] => false
  | acc, s :: r => (acc.any fun t => decide (t = s)) || dupG (acc ++ [s]) r
theorem anyEq_iff (acc : List ByteArray) (s : ByteArray) : (acc.any fun t => decide (t = s)) = true ↔ s ∈ acc := by
  rw [List.any_eq_true]
  constructor
  · rintro ⟨x, hx, e⟩
    rw [decide_eq_true_eq] at e
    subst e
    exact hx
  · exact fun h => ⟨s, h, by simp⟩
theorem anyEq_true {acc : List ByteArray} {s : ByteArray} (h : s ∈ acc) : (acc.any fun t => decide (t = s)) = true := (anyEq_iff acc s).2 h
theorem anyEq_false {acc : List ByteArray} {s : ByteArray} (h : s ∉ acc) : (acc.any fun t => decide (t = s)) = false := by
  rw [Bool.eq_false_iff]
  exact fun e => h ((anyEq_iff acc s).1 e)
theorem dupG_spec : ∀ (l acc : List ByteArray), dupG acc l = true ↔ (∃ s ∈ l, s ∈ acc) ∨ distinct l = false := by
  intro l
  induction l with
  | nil => intro acc; simp [dupG, distinct]
  | cons s r ih =>
    intro acc
    rw [dupG, Bool.or_eq_true, ih]
    have hd : distinct (s :: r) = false ↔ (s ∈ r ∨ distinct r = false) := by
      rw [show distinct (s :: r) = (!(r.any fun t => decide (t = s)) && distinct r) from rfl, Bool.and_eq_false_iff, Bool.not_eq_false', List.any_eq_true]
      constructor
      · rintro (⟨x, hx, e⟩ | h)
        · rw [decide_eq_true_eq] at e; subst e; exact Or.inl hx
        · exact Or.inr h
      · rintro (h | h)
        · exact Or.inl ⟨s, h, by simp⟩
        · exact Or.inr h
    rw [hd]
    simp only [anyEq_iff, List.mem_append, List.mem_cons, List.not_mem_nil, or_false]
    constructor
    · rintro (h | ⟨x, hx, h | h⟩ | h)
      · exact Or.inl ⟨s, Or.inl rfl, h⟩
      · exact Or.inl ⟨x, Or.inr hx, h⟩
      · subst h; exact Or.inr (Or.inl hx)
      · exact Or.inr (Or.inr h)
    · rintro (⟨x, rfl | hx, h⟩ | h | h)
      · exact Or.inl h
      · exact Or.inr (Or.inl ⟨x, hx, Or.inl h⟩)
      · exact Or.inr (Or.inl ⟨s, h, Or.inr rfl⟩)
      · exact Or.inr (Or.inr h)
theorem dupG_all (l : List ByteArray) : dupG [] l = !distinct l := by
  cases h : distinct l with
  | false => exact (dupG_spec l []).2 (Or.inr h)
  | true =>
    cases h2 : dupG [] l with
    | false => rfl
    | true =>
      rcases (dupG_spec l []).1 h2 with ⟨s, _, h3⟩ | h3
      · cases h3
      · rw [h] at h3; cases h3
/- The map of what was seen. -/
def seenL : List ByteArray → Nat → List SE
  | [], _ => []
  | s :: r, i => ⟨s, .int .i64 1, i⟩ :: seenL r (i + 1)
theorem seenL_snoc : ∀ (l : List ByteArray) (s : ByteArray) (i : Nat), seenL (l ++ [s]) i = seenL l i ++ [⟨s, .int .i64 1, i + l.length⟩] := by
  intro l
  induction l with
  | nil => intro s i; rfl
  | cons x r ih =>
    intro s i
    rw [List.cons_append, seenL, seenL, ih, List.cons_append, List.length_cons]
    rw [show i + 1 + r.length = i + (r.length + 1) by omega]
theorem seen_none : ∀ (l : List ByteArray) (s : ByteArray) (i : Nat), s ∉ l → at_ (seenL l i) s = none := by
  intro l s
  induction l with
  | nil => intro i _; rfl
  | cons x r ih =>
    intro i h
    have hx : x ≠ s := fun e => h (by rw [e]; exact List.mem_cons_self ..)
    have := ih (i + 1) fun e => h (List.mem_cons_of_mem _ e)
    unfold at_ at this ⊢
    rw [seenL, List.findIdx?_cons, beq_false_of hx, this]
    rfl
theorem seen_some : ∀ (l : List ByteArray) (s : ByteArray) (i : Nat), s ∈ l → ∃ j x, at_ (seenL l i) s = some j ∧ (seenL l i)[j]? = some x ∧ x.val = .int .i64 1 ∧ x.tx = s := by
  intro l s
  induction l with
  | nil => intro i h; cases h
  | cons x r ih =>
    intro i h
    by_cases hx : x = s
    · subst hx
      refine ⟨0, ⟨x, .int .i64 1, i⟩, ?_, rfl, rfl, rfl⟩
      unfold at_
      rw [seenL, List.findIdx?_cons, beq_true_of]
      rfl
    · rcases List.mem_cons.1 h with h | h
      · exact absurd h.symm hx
      obtain ⟨j, y, h1, h2, h3, h4⟩ := ih (i + 1) h
      refine ⟨j + 1, y, ?_, h2, h3, h4⟩
      unfold at_ at h1 ⊢
      rw [seenL, List.findIdx?_cons, beq_false_of hx, h1]
      rfl
theorem run_update_has {P : Program} {T K E : TypeId} {w : World} {m clock : Nat} {L : List SE} (hT : P.underlying T = some (.map K E)) (hK : P.underlying K = some .string) (h : MBlk w m L clock) (s : ByteArray) {j : Nat} {x : SE} (hj : at_ L s = some j) (hx : L[j]? = some x) (hs : x.tx = s) (v : Value) :
    (Instr.mapUpdate T (.map (some m)) (.string s) v).run P w = .ok () (setBlock w m (.map (ents (L.set j ⟨s, v, x.born⟩)) clock)) := by
  have he : (ents L)[j]? = some x.entry := by
    unfold ents
    rw [List.getElem?_toArray, List.getElem?_map, hx]
    rfl
  have hm : ((ents L).modify j fun e => { e with key := Value.string s, val := v }) = ents (L.set j ⟨s, v, x.born⟩) := by
    apply Array.ext'
    unfold ents
    rw [Array.toList_modify]
    simp only
    apply List.ext_getElem?
    intro i
    rw [List.getElem?_modify, List.getElem?_map, List.getElem?_map, List.getElem?_set]
    by_cases e : j = i
    · subst e
      rw [if_pos rfl, if_pos (List.getElem?_eq_some_iff.1 hx).1, hx]
      simp [SE.entry]
    · rw [if_neg e]
      simp only [if_neg e]
      cases L[i]? <;> rfl
  have hkey : (Instr.keyThatStays (.string s) (.string s)).run P w = .ok (.string s) w := by
    have : Instr.sameBits 10000 (.string s) (.string s) = true := by simp [Instr.sameBits, beq_true_of]
    simp [Instr.keyThatStays, this]
  have hfk : (Instr.findKey K (.string s) (ents L).toList).run P w = .ok (some (j, (L.getD j ⟨s, undef, 0⟩).val)) w := by
    have := run_findKey_sm (P := P) (w := w) (L := L) s hK
    rw [hj] at this
    exact this
  have hold : (((ents L)[j]?).map (·.key)).getD (.string s) = .string s := by
    rw [he]
    show Value.string x.tx = _
    rw [hs]
  simp [Instr.mapUpdate, run_underlying hT, run_getObj_map h, run_checkKey_string _ _ hK, hfk, hold, hkey, run_setObj_map h, hm]
theorem at_set {L : List SE} {s : ByteArray} {j : Nat} (h : at_ L s = some j) (v : Value) (b : Nat) : at_ (L.set j ⟨s, v, b⟩) s = some j := by
  unfold at_ at h ⊢
  rw [List.findIdx?_eq_some_iff_getElem] at h ⊢
  obtain ⟨hj, h1, h2⟩ := h
  refine ⟨by rw [List.length_set]; exact hj, by simp [beq_true_of], fun k hk => ?_⟩
  rw [List.getElem_set_ne (by omega)]
  exact h2 k hk

set_option maxHeartbeats 4000000 in
set_option maxRecDepth 100000 in
theorem twice_any {w : World} {v : Value} (l : List ByteArray) (hl : l.length ≤ 2000000) (hr : RowR w v l.length 1 (strCells l)) : Calls Tryz.prog 96 #[v] w (Got (.bool (!distinct l)) w) := by
  obtain ⟨A, cap, rfl, hlen, hA⟩ := hr
  obtain ⟨N, hN⟩ : ∃ n, n = l.length := ⟨_, rfl⟩
  obtain ⟨R, hR⟩ : ∃ r, r = !distinct l := ⟨_, rfl⟩
  rw [← hN] at hA hl ⊢
  rw [← hR]
  rw [← dupG_all] at hR
  have hT := Tryz.underlying173
  have hK := Tryz.underlying9
  have hM0 : MBlk (w.alloc (.map #[] 0)) w.heap.size [] 0 := heap_alloc_new w _
  have hb0 := boxed w (.map #[] 0)
  have hmm := @run_makeMap Tryz.prog
  have HA := Lib.hid hA
  have HN := Lib.hid hN
  have HR : RowKit.Hid (R = dupG (l.take 0) (l.drop 0)) := Lib.hid hR
  have HM0 := Lib.hid hM0
  have Hb0 := Lib.hid hb0
  clear hA hN hR hM0 hb0 hlen
  go_enter Tryz.func96, Tryz.ntmps96
  go_wp2_with fail
  generalize w.alloc (.map #[] 0) = w1 at HM0 Hb0 ⊢
  clear hmm
  obtain ⟨m, hm⟩ : ∃ m, m = w.heap.size := ⟨_, rfl⟩
  rw [← hm] at HM0 ⊢
  have Hm := Lib.hid hm
  clear hm
  go_loopw [9] (fun v9 wr => ∃ k : Nat, k ≤ N ∧ v9 = .int .i64 (k : Int) ∧ RowKit.Hid (MBlk wr m (seenL (l.take k) 0) k) ∧ RowKit.Hid (Below w.heap.size w wr) ∧ RowKit.Hid (R = dupG (l.take k) (l.drop k))) (fun v9 _ => N - (intOf v9).toNat)
  case atStart => exact ⟨0, Nat.zero_le _, rfl, HM0, Hb0, HR⟩
  case round =>
    obtain ⟨k, hk, rfl, hmb, hb, hres⟩ := hrel
    by_cases hlt : k < N
    · have hkl : k < l.length := by have := HN.out; omega
      obtain ⟨q, o, rfl, hc⟩ := HA.out (by omega)
      have hx : (strCells l)[k]? = some (.string l[k]) := by unfold strCells; rw [List.getElem?_map, List.getElem?_eq_getElem hkl]; rfl
      have c0 := hc _ _ hx
      have d0 := (hb.out.cell (World.block_lt_of_cell? w _ c0)).trans c0
      have hR := hres.out
      rw [List.drop_eq_getElem_cons hkl, dupG] at hR
      have htk := List.take_succ_eq_append_getElem hkl
      have htl : (l.take k).length = k := by rw [List.length_take]; omega
      generalize l[k] = s at hx d0 hR htk
      clear c0 hx hc
      by_cases hin : s ∈ l.take k
      · have hRt : R = true := by rw [hR, anyEq_true hin, Bool.true_or]
        have HRt := Lib.hid hRt
        obtain ⟨j, x, h1, h2, h3, h4⟩ := seen_some (l.take k) s 0 hin
        have hlk := run_lookup1 (P := Tryz.prog) hT hK hmb.out s h1 h2
        rw [h3] at hlk
        have hup := run_update_has (P := Tryz.prog) hT hK hmb.out s h1 h2 h4 (.int .i64 2)
        have hmb2 := MBlk.set_ hmb.out ((seenL (l.take k) 0).set j ⟨s, .int .i64 2, x.born⟩) k
        have hk2 : Keeps (fun x => x = m) wr (setBlock wr m (.map (ents ((seenL (l.take k) 0).set j ⟨s, .int .i64 2, x.born⟩)) k)) := (Keeps.refl (fun x => x = m) wr).setBlock (Or.inl rfl) _
        have hb2 := Lib.hid (below_keeps hb.out hk2 (fun q hq => by subst hq; rw [Hm.out]; exact Nat.le_refl _))
        have hlk2 := run_lookup1 (P := Tryz.prog) hT hK hmb2 s (at_set h1 (.int .i64 2) x.born) (x := ⟨s, .int .i64 2, x.born⟩) (by rw [List.getElem?_set_self (List.getElem?_eq_some_iff.1 h2).1])
        simp only at hlk2
        generalize setBlock wr m (.map (ents ((seenL (l.take k) 0).set j ⟨s, .int .i64 2, x.born⟩)) k) = W2 at hup hb2 hlk2
        clear hR hRt h1 h2 h3 h4 hmb2 hk2 hmb hres hin htk htl
        go_wp2_with fail
        go_ret
        exact ⟨by rw [HRt.out]; rfl, hb2.out⟩
      · have hRn : R = dupG (l.take (k + 1)) (l.drop (k + 1)) := by
          rw [hR, htk, anyEq_false hin, Bool.false_or]
        have HRn := Lib.hid hRn
        have hat := seen_none (l.take k) s 0 hin
        have hlk := run_lookup1_none (P := Tryz.prog) hT hK hmb.out s hat (Tryz.zeroValue3 wr)
        obtain ⟨W2, hup, _, _, hk2, hmb2⟩ := update_sm (P := Tryz.prog) hT hK hmb.out s hat (.int .i64 1)
        have hb2 := Lib.hid (below_keeps hb.out hk2 (fun q hq => by subst hq; rw [Hm.out]; exact Nat.le_refl _))
        rw [show seenL (l.take k) 0 ++ [⟨s, .int .i64 1, k⟩] = seenL (l.take (k + 1)) 0 by rw [htk, seenL_snoc, htl, Nat.zero_add]] at hmb2
        obtain ⟨j, x, h1, h2, h3, h4⟩ := seen_some (l.take (k + 1)) s 0 (by rw [htk]; simp)
        have hlk2 := run_lookup1 (P := Tryz.prog) hT hK hmb2 s h1 h2
        rw [h3] at hlk2
        have Hmb2 := Lib.hid hmb2
        clear hR hRn h1 h2 h3 h4 hmb2 hk2 hmb hres hin htk htl hat
        go_wp2_with fail
        go_roundw
        case rel => exact ⟨k + 1, by omega, by go_num, Hmb2, hb2, HRn⟩
        case measure => simp [intOf]; omega
    · obtain rfl : k = N := by omega
      have hR := hres.out
      rw [List.drop_eq_nil_of_le (by have := HN.out; omega), dupG] at hR
      have HRn := Lib.hid hR
      clear hR hres
      go_wp2_with fail
      go_ret
      exact ⟨by rw [HRn.out]; rfl, hb.out⟩
end Go.Proofs.YthglckoikjfjkaaGreatDoor

/- May groups, or tags, be? (mayNamed): the walk. -/
namespace Go.Proofs.YthglckoikjfjkaaGreatDoor
open Go.RowKit
attribute [local go_sem ↓] Go.wp_at_zero Go.wp_at_succ

/- What fits a machine. -/
structure NmFit (n : Nm) : Prop where
  name : n.name.size ≤ 2000000
  len : n.list.length ≤ 2000000
  all : ∀ s ∈ n.list, s.size ≤ 2000000
def okNm (n : Nm) : Bool := labelB n.name && decide (1 ≤ n.list.length) && decide (n.list.length ≤ 64) && n.list.all labelB
theorem mayNm_eq (l : List Nm) : mayNm l = (l.all okNm && decide (l.length ≤ 64) && distinct (l.map (·.name))) := rfl
theorem strCells_at {l : List ByteArray} {k : Nat} {s : ByteArray} (h : l[k]? = some s) : (strCells l)[k]? = some (.string s) := by
  unfold strCells
  rw [List.getElem?_map, h]
  rfl
theorem all_false {α : Type} {p : α → Bool} {l : List α} {k : Nat} {x : α} (h : l[k]? = some x) (hx : p x = false) : l.all p = false := by
  rw [Bool.eq_false_iff]
  intro e
  rw [List.all_eq_true] at e
  rw [e x (List.mem_of_getElem? h)] at hx
  cases hx
theorem RowR.cell {w w' : World} {A : Option Addr} {n cap size : Nat} {xs : List Value} (h : RowR w (.slice A n cap) n size xs) (hb : Below w.heap.size w w') (hn : 0 < n) : ∃ g o, A = some ⟨g, o, none⟩ ∧ ∀ j u, xs[j]? = some u → w'.cell? ⟨g, o + j, none⟩ = some u := by
  obtain ⟨A', cap', e, _, hA⟩ := h
  injection e with e1 _ e2
  subst e1
  obtain ⟨g, o, ha, hc⟩ := hA hn
  exact ⟨g, o, ha, fun j u hu => (hb.cell (World.block_lt_of_cell? w _ (hc j u hu))).trans (hc j u hu)⟩

set_option maxHeartbeats 8000000 in
set_option maxRecDepth 100000 in
theorem mayNamed_any {w : World} {v : Value} (l : List Nm) (h : NmRd w v l) (hl : l.length ≤ 2000000) (hf : ∀ n ∈ l, NmFit n) : Calls Tryz.prog 92 #[v] w (Got (.bool (mayNm l)) w) := by
  obtain ⟨A, cap, rfl⟩ := h.shape
  obtain ⟨xs, hxs, hrow, hin⟩ := h
  obtain ⟨N, hN⟩ : ∃ n, n = l.length := ⟨_, rfl⟩
  obtain ⟨R, hR⟩ : ∃ r, r = mayNm l := ⟨_, rfl⟩
  rw [← hN] at hrow hl ⊢
  rw [← hR]
  rw [mayNm_eq, ← hN] at hR
  obtain ⟨i0, hi, hz0, hz1, hz2⟩ := info_parts info_str
  have HRow := Lib.hid hrow
  have HIn := Lib.hid hin
  have HXs := Lib.hid hxs
  have HF := Lib.hid hf
  have HN := Lib.hid hN
  have HR := Lib.hid hR
  clear hrow hin hxs hf hN hR
  go_enter Tryz.func92, Tryz.ntmps92
  go_wp2_with fail
  go_loopw [3, 10] (fun v3 v10 wr => ∃ (k : Nat) (T : Option Addr) (ct : Nat), k ≤ N ∧ v10 = .int .i64 (k : Int) ∧ v3 = .slice T k ct ∧ RowKit.Hid (wr.ownsRow w.heap.size 9 1 (.slice T k ct) k (strCells ((l.take k).map (·.name)))) ∧ RowKit.Hid (Below w.heap.size w wr) ∧ RowKit.Hid ((l.take k).all okNm = true)) (fun _ v10 _ => N - (intOf v10).toNat)
  case atStart => exact ⟨0, none, 0, Nat.zero_le _, rfl, rfl, Lib.hid (World.ownsRow_nil _ _ _ _), Lib.hid (Below.refl _ _), Lib.hid rfl⟩
  case round =>
    obtain ⟨k, T, ct, hk, rfl, rfl, hown, hb, hall⟩ := hrel
    by_cases hlt : k < N
    · have hkl : k < l.length := by have := HN.out; omega
      have hlen := congrArg List.length HXs.out
      rw [List.length_map] at hlen
      obtain ⟨X, hX⟩ : ∃ X, xs[k]? = some X := ⟨_, List.getElem?_eq_getElem (by omega)⟩
      have hXl : l[k]? = some X.1 := by rw [← HXs.out, List.getElem?_map, hX]; rfl
      obtain ⟨q, o, rfl, hc⟩ := HRow.out.cell hb.out (by omega)
      have hcell := nmCells_at (xs.map nmPair) k (nmPair X) (by rw [List.getElem?_map, hX]; rfl)
      have d0 := hc _ _ hcell.1
      have d1 := hc _ _ hcell.2
      rw [← Nat.add_assoc] at d1
      have hXr := HIn.out X (List.mem_of_getElem? hX)
      have hXf := HF.out X.1 (List.mem_of_getElem? hXl)
      have hXg : l[k] = X.1 := (List.getElem?_eq_some_iff.1 hXl).2
      have htk := List.take_succ_eq_append_getElem hkl
      rw [hXg] at htk
      obtain ⟨⟨nm, ls⟩, lv⟩ := X
      unfold nmPair at d0 d1
      simp only at d0 d1 hXr htk
      obtain ⟨A2, c2, rfl⟩ := hXr.shape
      have HXr := Lib.hid hXr
      have HXf := Lib.hid hXf
      have HTk := Lib.hid htk
      have HXl := Lib.hid hXl
      obtain ⟨n2, hn2⟩ : ∃ n, n = ls.length := ⟨_, rfl⟩
      rw [← hn2] at d1 HXr
      have HN2 := Lib.hid hn2
      clear hn2 hXr hXf htk hXl hXg hX hc hcell hlen
      obtain ⟨wo, rfl⟩ : ∃ wo : World, wo = wr := ⟨_, rfl⟩
      go_upto_region 5 with fail
      have M1 := Lib.hid (Blk.new wo 56 #[.string nm, .slice A2 n2 c2])
      have q1 := boxed wo (.cells #[.string nm, .slice A2 n2 c2] 56)
      have hOM : ∀ g, (Value.slice T k ct).ownBlock = some g → g < wo.heap.size := fun g hg => (hown.out.lt g hg).2
      have OW1 := Lib.hid (own_below hown.out q1)
      have BB1 := Lib.hid (after hb.out q1)
      have BO1 := Lib.hid q1
      generalize wo.alloc (.cells #[.string nm, .slice A2 n2 c2] 56) = w1 at M1 q1 OW1 BB1 BO1 ⊢
      generalize hM : wo.heap.size = M at M1 hOM ⊢
      have HOM := Lib.hid hOM
      have HMs := Lib.hid hM
      clear q1 hown hb d0 d1 hOM hM
      have m0 := M1.out.cell 0
      simp at m0
      have hwb := BB1.out.size
      go_upto_region 6 with (at_builtin; refine wpList_append_own _ rfl _ _ 50 rfl w.heap.size 9 i0 (.string ByteArray.empty) 1 16 Tryz.underlying50 hi hz0 hz1 hz2 rfl (by decide) _ k _ rfl (OW1.out.alloc _) ⟨w1.heap.size, 0, none⟩ 1 1 [.string nm] rfl rfl (cell_one_new _ _ _) (fun x hx => by simp at hx; subst hx; rfl) (by unfold maxLen; omega) (by omega) (by simp; omega) ?_; intro v' w2 hown' hgrow hnil; have Ho2 := Lib.hid hown'; have Hg2 := Lib.hid hgrow; clear hown' hgrow hnil)
      obtain ⟨T2, ct2, rfl⟩ := own_shape Ho2.out
      have M2 := Lib.hid ((M1.out.alloc (.cells #[.string nm] 9)).off (Keeps.row Hg2.out) (ownOff (OW1.out.alloc _)) (by decide))
      have BB2 := Lib.hid ((BB1.out.alloc BB1.out.size (.cells #[.string nm] 9)).grown Hg2.out (by have := BB1.out.size; simp; omega) (fun q hq => (OW1.out.lt q hq).1))
      clear M1 OW1 BB1 BO1 Hg2 HOM HMs m0 hwb
      have n0 := M2.out.cell 0
      have n1 := M2.out.cell 1
      simp at n0 n1
      have hla := label_any nm (by have := HXf.out.name; simp only at this; omega) w2
      by_cases hlab : labelB nm = true
      case neg =>
        have hlf : labelB nm = false := by simpa using hlab
        rw [hlf] at hla
        have HL := Lib.hid hla
        have hRf : R = false := by rw [HR.out, all_false HXl.out (by unfold okNm; simp [hlf]), Bool.false_and, Bool.false_and]
        have HRf := Lib.hid hRf
        clear hla hRf hlab hlf
        go_wp2_with (go_at_call 93; (with_reducible refine HL.out.mono ?_); rintro r w3 ⟨rfl, d3⟩)
        go_ret
        exact ⟨by rw [HRf.out]; rfl, after BB2.out d3⟩
      rw [hlab] at hla
      have HL := Lib.hid hla
      clear hla
      by_cases h1 : n2 < 1
      · have q1 : (n2 : Int) < 1 := by omega
        have hRf : R = false := by rw [HR.out, all_false HXl.out (by unfold okNm; simp only; rw [decide_eq_false (show ¬ 1 ≤ ls.length by have := HN2.out; omega)]; simp), Bool.false_and, Bool.false_and]
        have HRf := Lib.hid hRf
        clear hRf hlab h1
        go_wp2_with (go_at_call 93; (with_reducible refine HL.out.mono ?_); rintro r w3 ⟨rfl, d3⟩; have M3 := M2.out.below d3 M2.out.lt; have o1 := M3.cell 1; simp at o1)
        go_ret
        exact ⟨by rw [HRf.out]; rfl, after BB2.out d3⟩
      have q1 : ¬ (n2 : Int) < 1 := by omega
      by_cases h64 : 64 < n2
      · have q2 : (64 : Int) < (n2 : Int) := by omega
        have hRf : R = false := by rw [HR.out, all_false HXl.out (by unfold okNm; simp only; rw [decide_eq_false (show ¬ ls.length ≤ 64 by have := HN2.out; omega)]; simp), Bool.false_and, Bool.false_and]
        have HRf := Lib.hid hRf
        clear hRf hlab h1 h64
        go_wp2_with (go_at_call 93; (with_reducible refine HL.out.mono ?_); rintro r w3 ⟨rfl, d3⟩; have M3 := M2.out.below d3 M2.out.lt; have o1 := M3.cell 1; simp at o1)
        go_ret
        exact ⟨by rw [HRf.out]; rfl, after BB2.out d3⟩
      have q2 : ¬ (64 : Int) < (n2 : Int) := by omega
      go_upto_region 8 with (go_at_call 93; (with_reducible refine HL.out.mono ?_); rintro r w3 ⟨rfl, d3⟩; have M3 := Lib.hid (M2.out.below d3 M2.out.lt); have o1 := M3.out.cell 1; simp at o1)
      have BB3 := Lib.hid (after BB2.out d3)
      have OW3 := Lib.hid (own_below Ho2.out d3)
      clear BB2 Ho2 M2 M3 n0 n1 d3 HL
      go_wp2_with fail
      go_loopw [38] (fun v38 wr2 => ∃ k2 : Nat, k2 ≤ n2 ∧ v38 = .int .i64 (k2 : Int) ∧ RowKit.Hid (Below w3.heap.size w3 wr2) ∧ RowKit.Hid ((ls.take k2).all labelB = true)) (fun v38 _ => n2 - (intOf v38).toNat)
      case atStart => exact ⟨0, Nat.zero_le _, rfl, Lib.hid (Below.refl _ _), Lib.hid rfl⟩
      case round =>
        obtain ⟨k2, hk2, rfl, hb2, hall2⟩ := hrel
        by_cases hlt2 : k2 < n2
        · have hkl2 : k2 < ls.length := by have := HN2.out; omega
          obtain ⟨q2', o2, rfl, hc2⟩ := HXr.out.cell (after (BB3.out) (Below.refl _ _)) (by omega)
          have cs := hc2 _ _ (strCells_at (List.getElem?_eq_getElem hkl2))
          have ds := (hb2.out.cell (World.block_lt_of_cell? w3 _ cs)).trans cs
          have htk2 := List.take_succ_eq_append_getElem hkl2
          have hsf := HXf.out.all _ (List.getElem_mem hkl2)
          have hse : ls[k2]? = some ls[k2] := List.getElem?_eq_getElem hkl2
          generalize ls[k2] = s at ds htk2 hsf hse
          clear cs hc2
          have hla := label_any s (by omega) wr
          by_cases hls : labelB s = true
          · rw [hls] at hla
            have HL := Lib.hid hla
            have hall3 : (ls.take (k2 + 1)).all labelB = true := by rw [htk2, List.all_append, hall2.out]; simp [hls]
            have Hall3 := Lib.hid hall3
            clear hla hall3 hls htk2 hse hsf
            go_wp2_with (go_at_call 93; (with_reducible refine HL.out.mono ?_); rintro r w4 ⟨rfl, d4⟩)
            go_roundw
            case rel => exact ⟨k2 + 1, by omega, by go_num, Lib.hid (after hb2.out d4), Hall3⟩
            case measure => simp [intOf]; omega
          · have hlf : labelB s = false := by simpa using hls
            rw [hlf] at hla
            have HL := Lib.hid hla
            have hRf : R = false := by rw [HR.out, all_false HXl.out (by unfold okNm; simp only; rw [all_false hse hlf]; simp), Bool.false_and, Bool.false_and]
            have HRf := Lib.hid hRf
            clear hla hRf hls hlf htk2 hse hsf
            go_wp2_with (go_at_call 93; (with_reducible refine HL.out.mono ?_); rintro r w4 ⟨rfl, d4⟩)
            go_ret
            exact ⟨by rw [HRf.out]; rfl, BB3.out.trans ((after hb2.out d4).mono BB3.out.size)⟩
        · obtain rfl : k2 = n2 := by omega
          have hokX : okNm ⟨nm, ls⟩ = true := by
            have h3 := hall2.out
            rw [List.take_of_length_le (by have := HN2.out; omega)] at h3
            unfold okNm
            simp only
            rw [hlab, h3, decide_eq_true (show 1 ≤ ls.length by have := HN2.out; omega), decide_eq_true (show ls.length ≤ 64 by have := HN2.out; omega)]
            rfl
          have hall3 : (l.take (k + 1)).all okNm = true := by rw [HTk.out, List.all_append, hall.out]; simp [hokX]
          have Hall3 := Lib.hid hall3
          have BB4 := Lib.hid (BB3.out.trans (hb2.out.mono BB3.out.size))
          have OW4 := Lib.hid (own_below OW3.out hb2.out)
          have hst : strCells ((l.take (k + 1)).map (·.name)) = strCells ((l.take k).map (·.name)) ++ [.string nm] := by rw [HTk.out, List.map_append]; simp [strCells]
          have HSt := Lib.hid hst
          clear hokX hall3 hst
          go_wp2_with fail
          go_roundw
          case rel => exact ⟨k + 1, _, _, by omega, by go_num, rfl, Lib.hid (by rw [HSt.out]; exact OW4.out), BB4, Hall3⟩
          case measure => simp [intOf]; omega
    · obtain rfl : k = N := by omega
      have hal := hall.out
      rw [List.take_of_length_le (by have := HN.out; omega)] at hal
      have hR := HR.out
      rw [hal, Bool.true_and] at hR
      have hml : (l.map (·.name)).length = k := by rw [List.length_map]; exact HN.out.symm
      have hto := hown.out
      rw [List.take_of_length_le (by have := HN.out; omega)] at hto
      have htw := twice_any (w := wr) (v := .slice T k ct) (l.map (·.name)) (by omega) (RowR.of_own' hto hml)
      by_cases h64 : k ≤ 64
      · have q1 : (k : Int) ≤ 64 := by omega
        rw [decide_eq_true h64, Bool.true_and] at hR
        rw [← hR] at htw
        have HTw := Lib.hid htw
        clear htw hR hto hal hml h64
        cases R with
        | true =>
          have HTw' : RowKit.Hid (Calls Tryz.prog 96 #[.slice T k ct] wr (Got (.bool false) wr)) := HTw
          clear HTw
          go_wp2_with (go_at_call 96; (with_reducible refine HTw'.out.mono ?_); rintro r w2 ⟨rfl, d2⟩)
          go_ret
          exact ⟨rfl, after hb.out d2⟩
        | false =>
          have HTw' : RowKit.Hid (Calls Tryz.prog 96 #[.slice T k ct] wr (Got (.bool true) wr)) := HTw
          clear HTw
          go_wp2_with (go_at_call 96; (with_reducible refine HTw'.out.mono ?_); rintro r w2 ⟨rfl, d2⟩)
          go_ret
          exact ⟨rfl, after hb.out d2⟩
      · have q1 : ¬ (k : Int) ≤ 64 := by omega
        rw [decide_eq_false h64, Bool.false_and] at hR
        have HRf := Lib.hid hR
        clear htw hR hto hal hml h64
        go_wp2_with fail
        go_ret
        exact ⟨by rw [HRf.out]; rfl, hb.out⟩
end Go.Proofs.YthglckoikjfjkaaGreatDoor

/- A selector as a word (selText): the walk. -/
namespace Go.Proofs.YthglckoikjfjkaaGreatDoor
open Go.RowKit
attribute [local go_sem ↓] Go.wp_at_zero Go.wp_at_succ

def selTB (s : Sel) : ByteArray := ofL (selT s)
theorem ptextB_size (p : Pf) (ok : p.Ok) : (ptextB p).size ≤ 70 := by
  have h1 := textL_len p.a
  have h2 := decL_len p.bits (by have := ok.bits; omega)
  unfold ptextB ptext
  split
  · simp [ByteArray.size]
    omega
  · simp [ByteArray.size]
theorem selTB_size (s : Sel) (ok : s.net.Ok) : (selTB s).size ≤ s.name.size + 80 := by
  have h1 := ptextB_size s.net ok
  unfold ptextB at h1
  have h2 : s.name.data.toList.length = s.name.size := by rw [Array.length_toList]; rfl
  have h3 : (⟨(ptext s.net).toArray⟩ : ByteArray).size = (ptext s.net).length := by simp [ByteArray.size]
  rw [h3] at h1
  have h4 : (selTB s).size = (selT s).length := by unfold selTB ofL; simp [ByteArray.size]
  rw [h4]
  unfold selT
  split
  · simp
  split
  · rw [List.length_append, List.length_cons, h2]; show 4 + _ ≤ _; omega
  split
  · rw [List.length_append, List.length_cons, h2]; show 5 + _ ≤ _; omega
  split
  · rw [List.length_append, List.length_cons, h2]; show 3 + _ ≤ _; omega
  split
  · rw [List.length_append, List.length_cons, h2]; show 4 + _ ≤ _; omega
  split
  · rw [List.length_append, List.length_cons]; show 3 + _ ≤ _; omega
  · simp

set_option maxHeartbeats 8000000 in
set_option maxRecDepth 100000 in
theorem selText_any {w : World} (env : Env w) (s : Sel) (ok : s.net.Ok) (hs : s.name.size ≤ 2000000) : Calls Tryz.prog 100 #[.agg #[.int .u8 (s.kind : Int), .string s.name, .bool s.net.a.v6, .int .u64 (s.net.a.hi : Int), .int .u64 (s.net.a.lo : Int), .int .u8 (s.net.bits : Int)]] w (Got (.string (selTB s)) w) := by
  have hpt := fun v (hv : Below w.heap.size w v) => prefixText_any (env.below hv) s.net ok
  have hps := ptextB_size s.net ok
  have hT : ∀ k, selTB ⟨k, s.name, s.net⟩ = if k = 1 then ⟨#[42]⟩ else if k = 2 then ⟨#[117, 115, 101, 114, 58]⟩ ++ s.name else if k = 3 then ⟨#[103, 114, 111, 117, 112, 58]⟩ ++ s.name else if k = 4 then ⟨#[116, 97, 103, 58]⟩ ++ s.name else if k = 5 then ⟨#[104, 111, 115, 116, 58]⟩ ++ s.name else if k = 6 then ⟨#[110, 101, 116, 58]⟩ ++ ptextB s.net else ⟨#[]⟩ := by
    intro k
    unfold selTB selT ptextB
    simp only
    split
    · rfl
    split
    · apply ByteArray.ext; simp [ofL, W_user]
    split
    · apply ByteArray.ext; simp [ofL, W_group]
    split
    · apply ByteArray.ext; simp [ofL, W_tag]
    split
    · apply ByteArray.ext; simp [ofL, W_host]
    split
    · apply ByteArray.ext; simp [ofL, W_net]
    · rfl
  generalize ptextB s.net = PT at hpt hps hT
  obtain ⟨k, nm, pf⟩ := s
  have hTk := hT k
  unfold Pf.cells at hpt
  obtain ⟨⟨v6, hi, lo⟩, bits⟩ := pf
  simp only at hpt hTk hs ⊢
  have hB0 := Blk.new w 66 #[.int .u8 (k : Int), .string nm, .bool v6, .int .u64 (hi : Int), .int .u64 (lo : Int), .int .u8 (bits : Int)]
  have hb0 := boxed w (.cells #[.int .u8 (k : Int), .string nm, .bool v6, .int .u64 (hi : Int), .int .u64 (lo : Int), .int .u8 (bits : Int)] 66)
  generalize selTB ⟨k, nm, ⟨⟨v6, hi, lo⟩, bits⟩⟩ = OUT at hTk ⊢
  have HT := Lib.hid hTk
  have HPT := Lib.hid (hpt _ hb0)
  have Hb0 := Lib.hid hb0
  have x0 := hB0.cell 0
  have x1 := hB0.cell 1
  have x2 := hB0.cell 2
  have x3 := hB0.cell 3
  have x4 := hB0.cell 4
  have x5 := hB0.cell 5
  simp at x0 x1 x2 x3 x4 x5
  have z5 : ¬ 9223372036854775807 < 5 + nm.size := by omega
  have z6 : ¬ 9223372036854775807 < 6 + nm.size := by omega
  have z4 : ¬ 9223372036854775807 < 4 + nm.size := by omega
  have zp : ¬ 9223372036854775807 < 4 + PT.size := by omega
  clear hTk hT hpt hb0 hB0 env ok hs hps
  by_cases k1 : k = 1
  case pos =>
    have e1 : ((k : Int) == 1) = true := by simp; omega
    have hO := HT.out
    rw [if_pos k1] at hO
    have HO := Lib.hid hO
    clear hO HT k1
    go_enter Tryz.func100, Tryz.ntmps100
    go_wp2_with (go_at_call 63; (with_reducible refine HPT.out.mono ?_); rintro r w2 ⟨rfl, d2⟩)
    go_ret
    exact ⟨by rw [HO.out]; rfl, Hb0.out⟩
  have q1 : ((k : Int) == 1) = false := by simp; omega
  by_cases k2 : k = 2
  case pos =>
    have e2 : ((k : Int) == 2) = true := by simp; omega
    have hO := HT.out
    rw [if_neg k1, if_pos k2] at hO
    have HO := Lib.hid hO
    clear hO HT k2
    go_enter Tryz.func100, Tryz.ntmps100
    go_wp2_with (go_at_call 63; (with_reducible refine HPT.out.mono ?_); rintro r w2 ⟨rfl, d2⟩)
    go_ret
    exact ⟨by rw [HO.out]; rfl, Hb0.out⟩
  have q2 : ((k : Int) == 2) = false := by simp; omega
  by_cases k3 : k = 3
  case pos =>
    have e3 : ((k : Int) == 3) = true := by simp; omega
    have hO := HT.out
    rw [if_neg k1, if_neg k2, if_pos k3] at hO
    have HO := Lib.hid hO
    clear hO HT k3
    go_enter Tryz.func100, Tryz.ntmps100
    go_wp2_with (go_at_call 63; (with_reducible refine HPT.out.mono ?_); rintro r w2 ⟨rfl, d2⟩)
    go_ret
    exact ⟨by rw [HO.out]; rfl, Hb0.out⟩
  have q3 : ((k : Int) == 3) = false := by simp; omega
  by_cases k4 : k = 4
  case pos =>
    have e4 : ((k : Int) == 4) = true := by simp; omega
    have hO := HT.out
    rw [if_neg k1, if_neg k2, if_neg k3, if_pos k4] at hO
    have HO := Lib.hid hO
    clear hO HT k4
    go_enter Tryz.func100, Tryz.ntmps100
    go_wp2_with (go_at_call 63; (with_reducible refine HPT.out.mono ?_); rintro r w2 ⟨rfl, d2⟩)
    go_ret
    exact ⟨by rw [HO.out]; rfl, Hb0.out⟩
  have q4 : ((k : Int) == 4) = false := by simp; omega
  by_cases k5 : k = 5
  case pos =>
    have e5 : ((k : Int) == 5) = true := by simp; omega
    have hO := HT.out
    rw [if_neg k1, if_neg k2, if_neg k3, if_neg k4, if_pos k5] at hO
    have HO := Lib.hid hO
    clear hO HT k5
    go_enter Tryz.func100, Tryz.ntmps100
    go_wp2_with (go_at_call 63; (with_reducible refine HPT.out.mono ?_); rintro r w2 ⟨rfl, d2⟩)
    go_ret
    exact ⟨by rw [HO.out]; rfl, Hb0.out⟩
  have q5 : ((k : Int) == 5) = false := by simp; omega
  by_cases k6 : k = 6
  case pos =>
    have e6 : ((k : Int) == 6) = true := by simp; omega
    have hO := HT.out
    rw [if_neg k1, if_neg k2, if_neg k3, if_neg k4, if_neg k5, if_pos k6] at hO
    have HO := Lib.hid hO
    clear hO HT k6
    go_enter Tryz.func100, Tryz.ntmps100
    go_wp2_with (go_at_call 63; (with_reducible refine HPT.out.mono ?_); rintro r w2 ⟨rfl, d2⟩)
    go_ret
    exact ⟨by rw [HO.out]; rfl, (after Hb0.out d2)⟩
  have q6 : ((k : Int) == 6) = false := by simp; omega
  have hO := HT.out
  rw [if_neg k1, if_neg k2, if_neg k3, if_neg k4, if_neg k5, if_neg k6] at hO
  have HO := Lib.hid hO
  clear hO HT k1 k2 k3 k4 k5 k6
  go_enter Tryz.func100, Tryz.ntmps100
  go_wp2_with fail
  go_ret
  exact ⟨by rw [HO.out]; rfl, Hb0.out⟩
end Go.Proofs.YthglckoikjfjkaaGreatDoor

/- May selectors be? (maySels): the walk. -/
namespace Go.Proofs.YthglckoikjfjkaaGreatDoor
open Go.RowKit
attribute [local go_sem ↓] Go.wp_at_zero Go.wp_at_succ

structure SelFit (s : Sel) : Prop where
  ok : s.net.Ok
  kind : s.kind < 256
  name : s.name.size ≤ 1900000
def okSel (p : Po) (s : Sel) : Bool := decide (selP (selTB s) = some s) && knownP p s
theorem maySels_eq (p : Po) (l : List Sel) : maySels p l = (l.all (okSel p) && decide (1 ≤ l.length) && decide (l.length ≤ 64)) := rfl
theorem selCells_at : ∀ (l : List Sel) (k : Nat) (x : Sel), l[k]? = some x → (selCells l)[k * 6]? = some (.int .u8 (x.kind : Int)) ∧ (selCells l)[k * 6 + 1]? = some (.string x.name) ∧ (selCells l)[k * 6 + 2]? = some (.bool x.net.a.v6) ∧ (selCells l)[k * 6 + 3]? = some (.int .u64 (x.net.a.hi : Int)) ∧ (selCells l)[k * 6 + 4]? = some (.int .u64 (x.net.a.lo : Int)) ∧ (selCells l)[k * 6 + 5]? = some (.int .u8 (x.net.bits : Int)) := by
  intro l
  induction l with
  | nil => intro k x h; cases h
  | cons y r ih =>
    intro k x h
    cases k with
    | zero => injection h with h; subst h; exact ⟨rfl, rfl, rfl, rfl, rfl, rfl⟩
    | succ k =>
      rw [show (k + 1) * 6 = k * 6 + 1 + 1 + 1 + 1 + 1 + 1 by omega]
      exact ih k x h

theorem tl_inj {a b : ByteArray} (h : a.toList = b.toList) : a = b := by
  rw [ByteArray.toList_eq, ByteArray.toList_eq] at h
  exact ByteArray.ext (Array.ext' h)

set_option maxHeartbeats 8000000 in
set_option maxRecDepth 100000 in
theorem maySels_any {w : World} (env : Env w) {V : PoV} {p : Po} (h : PoRd w V p) (hg : p.groups.length ≤ 2000000) (ht : p.tags.length ≤ 2000000) (hh : p.hosts.length ≤ 2000000) {v : Value} (l : List Sel) (hr : RowR w v l.length 6 (selCells l)) (hl : l.length ≤ 2000000) (hf : ∀ s ∈ l, SelFit s) :
    Calls Tryz.prog 112 #[.agg #[V.g, V.t, V.h, V.a], v] w (Got (.bool (maySels p l)) w) := by
  obtain ⟨A, cap, rfl⟩ := hr.shape
  obtain ⟨N, hN⟩ : ∃ n, n = l.length := ⟨_, rfl⟩
  obtain ⟨R, hR⟩ : ∃ r, r = maySels p l := ⟨_, rfl⟩
  rw [← hN] at hr hl ⊢
  rw [← hR]
  rw [maySels_eq, ← hN] at hR
  obtain ⟨gv, tv, hv, av⟩ := V
  obtain ⟨Ag, cg, eg⟩ := h.g.shape
  obtain ⟨At, ct, et⟩ := h.t.shape
  obtain ⟨Ah, ch, eh⟩ := h.h.shape
  obtain ⟨Aa, ca, ea⟩ := h.a.shape
  simp only at eg et eh ea
  have B1 := Blk.new w 26 #[gv, tv, hv, av]
  have b1 := boxed w (.cells #[gv, tv, hv, av] 26)
  have h1 := h.below b1
  have hr1 := hr.below b1
  have env1 := env.below b1
  simp only
  rw [show gv = .slice Ag p.groups.length cg from eg, show tv = .slice At p.tags.length ct from et, show hv = .slice Ah p.hosts.length ch from eh, show av = .slice Aa p.acls.length ca from ea] at *
  have HP := Lib.hid h1
  have HRow := Lib.hid hr1
  have HF := Lib.hid hf
  have HN := Lib.hid hN
  have HR := Lib.hid hR
  have HEnv := Lib.hid env1
  have HB1 := Lib.hid B1
  have Hb1 := Lib.hid b1
  have hGl := hg
  have hTl := ht
  have hHl := hh
  have HGl := Lib.hid hg
  have HTl := Lib.hid ht
  have HHl := Lib.hid hh
  clear h h1 hr hr1 hf hN hR env env1 B1 b1 eg et eh ea hGl hTl hHl hg ht hh
  go_enter Tryz.func112, Tryz.ntmps112
  go_wp2_with fail
  generalize w.alloc (.cells #[.slice Ag p.groups.length cg, .slice At p.tags.length ct, .slice Ah p.hosts.length ch, .slice Aa p.acls.length ca] 26) = w1 at HB1 Hb1 HP HRow HEnv ⊢
  generalize w.heap.size = PB at HB1 ⊢
  go_loopw [11] (fun v11 wr => ∃ k : Nat, k ≤ N ∧ v11 = .int .i64 (k : Int) ∧ RowKit.Hid (Below w1.heap.size w1 wr) ∧ RowKit.Hid ((l.take k).all (okSel p) = true)) (fun v11 _ => N - (intOf v11).toNat)
  case atStart => exact ⟨0, Nat.zero_le _, rfl, Lib.hid (Below.refl _ _), Lib.hid rfl⟩
  case round =>
    obtain ⟨k, hk, rfl, hb, hall⟩ := hrel
    by_cases hlt : k < N
    · have hkl : k < l.length := by have := HN.out; omega
      obtain ⟨q, o, rfl, hc⟩ := HRow.out.cell hb.out (by omega)
      have hXl : l[k]? = some l[k] := List.getElem?_eq_getElem hkl
      have htk := List.take_succ_eq_append_getElem hkl
      have hXf := HF.out _ (List.getElem_mem hkl)
      generalize l[k] = X at hXl htk hXf
      obtain ⟨e0, e1, e2, e3, e4, e5⟩ := selCells_at l k X hXl
      have d0 := hc _ _ e0
      have d1 := hc _ _ e1
      have d2 := hc _ _ e2
      have d3 := hc _ _ e3
      have d4 := hc _ _ e4
      have d5 := hc _ _ e5
      rw [← Nat.add_assoc] at d1 d2 d3 d4 d5
      have htext := fun u (hu : Below w1.heap.size w1 u) => selText_any (HEnv.out.below hu) X hXf.ok (by have := hXf.name; omega)
      have hsel := fun u (hu : Below w1.heap.size w1 u) => sel_any (HEnv.out.below hu) (selTB X) (by have := selTB_size X hXf.ok; have := hXf.name; omega)
      have hkn := fun u (hu : Below w1.heap.size w1 u) => known_any (HP.out.below hu) (by have := HGl.out; omega) (by have := HTl.out; omega) (by have := HHl.out; omega) X
      have hok : okSel p X = (decide (selP (selTB X) = some X) && knownP p X) := rfl
      obtain ⟨x1, x2, ⟨⟨x3, x4, x5⟩, x6⟩⟩ := X
      generalize selTB ⟨x1, x2, ⟨⟨x3, x4, x5⟩, x6⟩⟩ = TX at htext hsel hok
      simp only at d0 d1 d2 d3 d4 d5 htext hkn
      have HTk := Lib.hid htk
      have HXl := Lib.hid hXl
      have HText := Lib.hid htext
      have HSel := Lib.hid hsel
      have HKn := Lib.hid hkn
      have HOk := Lib.hid hok
      clear htk hXl hXf e0 e1 e2 e3 e4 e5 htext hsel hkn hok hc
      obtain ⟨wo, rfl⟩ : ∃ wo : World, wo = wr := ⟨_, rfl⟩
      go_upto_region 4 with fail
      have M1 := Lib.hid (Blk.new wo 66 #[.int .u8 (x1 : Int), .string x2, .bool x3, .int .u64 (x4 : Int), .int .u64 (x5 : Int), .int .u8 (x6 : Int)])
      have q1 := boxed wo (.cells #[.int .u8 (x1 : Int), .string x2, .bool x3, .int .u64 (x4 : Int), .int .u64 (x5 : Int), .int .u8 (x6 : Int)] 66)
      have BB1 := Lib.hid (after hb.out q1)
      generalize wo.alloc (.cells #[.int .u8 (x1 : Int), .string x2, .bool x3, .int .u64 (x4 : Int), .int .u64 (x5 : Int), .int .u8 (x6 : Int)] 66) = w2 at M1 q1 BB1 ⊢
      generalize wo.heap.size = M at M1 ⊢
      clear q1 hb d0 d1 d2 d3 d4 d5
      have m0 := M1.out.cell 0
      have m1 := M1.out.cell 1
      have m2 := M1.out.cell 2
      have m3 := M1.out.cell 3
      have m4 := M1.out.cell 4
      have m5 := M1.out.cell 5
      simp at m0 m1 m2 m3 m4 m5
      obtain ⟨O, hO⟩ : ∃ o, o = selP TX := ⟨_, rfl⟩
      rw [← hO] at HSel HOk
      clear hO
      cases O with
      | none =>
        have hRf : R = false := by rw [HR.out, all_false HXl.out (by rw [HOk.out]; simp), Bool.false_and, Bool.false_and]
        have HRf := Lib.hid hRf
        clear hRf
        go_wp2_with (first
          | (go_at_call 100; (with_reducible refine (HText.out _ BB1.out).mono ?_); rintro r w3 ⟨rfl, d3⟩; have BB3 := after BB1.out d3)
          | (go_at_call 145; (with_reducible refine (sel_none (HSel.out _ BB3)).mono ?_); rintro r w4 ⟨⟨y1, y2, y3, y4, y5, y6, rfl⟩, d4⟩; have BB4 := after BB3 d4))
        go_ret
        exact ⟨by rw [HRf.out]; rfl, Hb1.out.trans ((after BB4 (boxed w4 _)).mono Hb1.out.size)⟩
      | some Y =>
        obtain ⟨y1, y2, ⟨⟨y3, y4, y5⟩, y6⟩⟩ := Y
        have HSel' : RowKit.Hid (∀ u, Below w1.heap.size w1 u → Calls Tryz.prog 145 #[.string TX] u (Got (.tuple #[.agg #[.int .u8 (y1 : Int), .string y2, .bool y3, .int .u64 (y4 : Int), .int .u64 (y5 : Int), .int .u8 (y6 : Int)], .bool true]) u)) := Lib.hid fun u hu => sel_some (HSel.out u hu)
        clear HSel
        go_upto_region 5 with (first
          | (go_at_call 100; (with_reducible refine (HText.out _ BB1.out).mono ?_); rintro r w3 ⟨rfl, d3⟩; have BB3 := after BB1.out d3)
          | (go_at_call 145; (with_reducible refine (HSel'.out _ BB3).mono ?_); rintro r w4 ⟨rfl, d4⟩; have BB4 := after BB3 d4))
        have M4 := Lib.hid ((M1.out.below d3 M1.out.lt).below d4 (M1.out.below d3 M1.out.lt).lt)
        have q4 := boxed w4 (.cells #[.int .u8 (y1 : Int), .string y2, .bool y3, .int .u64 (y4 : Int), .int .u64 (y5 : Int), .int .u8 (y6 : Int)] 66)
        have N5 := Lib.hid (Blk.new w4 66 #[.int .u8 (y1 : Int), .string y2, .bool y3, .int .u64 (y4 : Int), .int .u64 (y5 : Int), .int .u8 (y6 : Int)])
        have M5 := Lib.hid (M4.out.below q4 M4.out.lt)
        have BB5 := Lib.hid (after BB4 q4)
        generalize w4.alloc (.cells #[.int .u8 (y1 : Int), .string y2, .bool y3, .int .u64 (y4 : Int), .int .u64 (y5 : Int), .int .u8 (y6 : Int)] 66) = w5 at N5 M5 BB5 ⊢
        generalize w4.heap.size = K at N5 ⊢
        clear q4 M4 d4 d3 BB4 BB3 BB1 M1 m0 m1 m2 m3 m4 m5 HText HSel'
        have m0 := M5.out.cell 0
        have m1 := M5.out.cell 1
        have m2 := M5.out.cell 2
        have m3 := M5.out.cell 3
        have m4 := M5.out.cell 4
        have m5 := M5.out.cell 5
        have n0 := N5.out.cell 0
        have n1 := N5.out.cell 1
        have n2 := N5.out.cell 2
        have n3 := N5.out.cell 3
        have n4 := N5.out.cell 4
        have n5 := N5.out.cell 5
        simp at m0 m1 m2 m3 m4 m5 n0 n1 n2 n3 n4 n5
        have PB5 := HB1.out.below BB5.out HB1.out.lt
        have p0 := PB5.cell 0
        have p1 := PB5.cell 1
        have p2 := PB5.cell 2
        have p3 := PB5.cell 3
        simp at p0 p1 p2 p3
        by_cases hYX : (⟨y1, y2, ⟨⟨y3, y4, y5⟩, y6⟩⟩ : Sel) = ⟨x1, x2, ⟨⟨x3, x4, x5⟩, x6⟩⟩
        case neg =>
          have hRf : R = false := by rw [HR.out, all_false HXl.out (by rw [HOk.out, decide_eq_false (fun e => hYX (by injection e)), Bool.false_and]), Bool.false_and, Bool.false_and]
          have HRf := Lib.hid hRf
          have HNe := Lib.hid hYX
          clear hRf hYX
          go_wp2_with fail
          all_goals first
            | (go_ret; exact ⟨by rw [HRf.out]; rfl, Hb1.out.trans (BB5.out.mono Hb1.out.size)⟩)
            | (exfalso
               refine HNe.out ?_
               obtain rfl : y1 = x1 := by omega
               obtain rfl : y2 = x2 := tl_inj (by assumption)
               obtain rfl : y3 = x3 := by assumption
               obtain rfl : y4 = x4 := by omega
               obtain rfl : y5 = x5 := by omega
               obtain rfl : y6 = x6 := by omega
               rfl)
        injection hYX with f1 f2 f3
        injection f3 with f3 f6
        injection f3 with f3 f4 f5
        subst f1 f2 f3 f4 f5 f6
        by_cases hkn : knownP p ⟨y1, y2, ⟨⟨y3, y4, y5⟩, y6⟩⟩ = true
        case neg =>
          have hkf : knownP p ⟨y1, y2, ⟨⟨y3, y4, y5⟩, y6⟩⟩ = false := by simpa using hkn
          have hRf : R = false := by rw [HR.out, all_false HXl.out (by rw [HOk.out, hkf, Bool.and_false]), Bool.false_and, Bool.false_and]
          have HRf := Lib.hid hRf
          rw [hkf] at HKn
          clear hRf hkn hkf
          go_wp2_with (go_at_call 146; (with_reducible refine (HKn.out _ BB5.out).mono ?_); rintro r w6 ⟨rfl, d6⟩)
          go_ret
          exact ⟨by rw [HRf.out]; rfl, Hb1.out.trans ((after BB5.out d6).mono Hb1.out.size)⟩
        have hall3 : (l.take (k + 1)).all (okSel p) = true := by rw [HTk.out, List.all_append, hall.out, List.all_cons, HOk.out, hkn]; simp
        have Hall3 := Lib.hid hall3
        rw [hkn] at HKn
        clear hall3 hkn
        go_wp2_with (go_at_call 146; (with_reducible refine (HKn.out _ BB5.out).mono ?_); rintro r w6 ⟨rfl, d6⟩)
        go_roundw
        case rel => exact ⟨k + 1, by omega, by go_num, Lib.hid (after BB5.out d6), Hall3⟩
        case measure => simp [intOf]; omega
    · obtain rfl : k = N := by omega
      have hal := hall.out
      rw [List.take_of_length_le (by have := HN.out; omega)] at hal
      have hR := HR.out
      rw [hal, Bool.true_and] at hR
      by_cases h1 : 1 ≤ k
      case neg =>
        have q1 : ¬ (1 : Int) ≤ (k : Int) := by omega
        rw [decide_eq_false h1, Bool.false_and] at hR
        have HRf := Lib.hid hR
        clear hR hal h1
        go_wp2_with fail
        go_ret
        exact ⟨by rw [HRf.out]; rfl, Hb1.out.trans (hb.out.mono Hb1.out.size)⟩
      have q1 : (1 : Int) ≤ (k : Int) := by omega
      rw [decide_eq_true h1, Bool.true_and] at hR
      by_cases h64 : k ≤ 64
      · have q2 : (k : Int) ≤ 64 := by omega
        rw [decide_eq_true h64] at hR
        have HRf := Lib.hid hR
        clear hR hal h1 h64
        go_wp2_with fail
        go_ret
        exact ⟨by rw [HRf.out]; rfl, Hb1.out.trans (hb.out.mono Hb1.out.size)⟩
      · have q2 : ¬ (k : Int) ≤ 64 := by omega
        rw [decide_eq_false h64] at hR
        have HRf := Lib.hid hR
        clear hR hal h1 h64
        go_wp2_with fail
        go_ret
        exact ⟨by rw [HRf.out]; rfl, Hb1.out.trans (hb.out.mono Hb1.out.size)⟩
end Go.Proofs.YthglckoikjfjkaaGreatDoor
