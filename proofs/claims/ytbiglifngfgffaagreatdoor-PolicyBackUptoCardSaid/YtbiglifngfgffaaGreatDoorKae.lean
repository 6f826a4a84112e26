/- Joined out of: NuA PlC PlD PlE PlF. -/
import Derived.Test.YtbiglifngfgffaaGreatDoorKad
import Derived.Lib.SplitLaws
import Derived.Deep.Onto
import Derived.Deep.RegionHeld3
import Derived.Deep.DrawnRows
import Derived.BigRegion
set_option linter.unusedVariables false
set_option linter.unusedSimpArgs false

/- The program's reading of numbers between signs: the walk. -/
namespace Go.Proofs.YtbiglifngfgffaaGreatDoor
open Go.RowKit

theorem info_u64 : (Tryz.prog.info? 47).map (fun i => (i.zero, i.size, i.bytes)) = some (some (.int .u64 0), 1, 8) := by kernel_rfl
def cellsU (L : List Nat) : List Value := L.map fun x : Nat => Value.int .u64 (x : Int)
theorem cellsU_snoc (L : List Nat) (x : Nat) : cellsU (L ++ [x]) = cellsU L ++ [.int .u64 (x : Int)] := by simp [cellsU]
theorem own_shape {w : World} {base size n : Nat} {e : TypeId} {v : Value} {xs : List Value} (h : w.ownsRow base e size v n xs) : ∃ A cap, v = .slice A n cap := by
  rcases h.2 with ⟨rfl, rfl⟩ | ⟨g, cap, cur, rfl, _⟩
  · exact ⟨none, 0, rfl⟩
  · exact ⟨_, _, rfl⟩
theorem split1_size {c : UInt8} : ∀ {l x : List UInt8}, x ∈ split1 c l → x.length ≤ l.length := by
  intro l
  induction l with
  | nil => intro x hx; simp [split1] at hx; simp [hx]
  | cons a l ih =>
    intro x hx
    unfold split1 at hx
    split at hx
    · rcases List.mem_cons.1 hx with rfl | hx
      · simp
      · have := ih hx; simp; omega
    · split at hx
      · next e => exact absurd e (split1_ne c l)
      · next h t e =>
        rcases List.mem_cons.1 hx with rfl | hx
        · have := ih (x := h) (by rw [e]; exact List.mem_cons_self ..)
          simp; omega
        · have := ih (x := x) (by rw [e]; exact List.mem_cons_of_mem _ hx)
          simp; omega
theorem num1_bound {base B B' n : Nat} {l : List UInt8} (h : num1 base B l = some n) (hB : B' ≤ B) : num1 base B' l = if n < B' then some n else none := by
  unfold num1 at h ⊢
  split at h
  · cases h
  · next hl =>
    rw [if_neg hl]
    cases e : pval (dval base) base 0 l with
    | none => rw [e] at h; cases h
    | some m =>
      rw [e] at h
      simp only [Option.bind_some] at h ⊢
      split at h
      · cases h; rfl
      · cases h
theorem num1_none_of {base B B' : Nat} {l : List UInt8} (h : num1 base B l = none) (hB : B' ≤ B) : num1 base B' l = none := by
  cases e : num1 base B' l with
  | none => rfl
  | some n =>
    have hlt := num1_lt e
    unfold num1 at h e
    split at e
    · cases e
    · next hl =>
      rw [if_neg hl] at h
      cases e2 : pval (dval base) base 0 l with
      | none => rw [e2] at e; cases e
      | some m =>
        rw [e2] at e h
        simp only [Option.bind_some] at e h
        split at e
        · cases e
          rw [if_pos (by omega)] at h
          cases h
        · cases e

/- What numbers answers. -/
def NumGot (Lo : Option (List Nat)) (W : World) (r : Ending) (w' : World) : Prop := (match Lo with
  | none => r = .returned (.tuple #[.slice none 0 0, .bool false])
  | some L => ∃ v : Value, r = .returned (.tuple #[v, .bool true]) ∧ w'.ownsRow W.heap.size 47 1 v L.length (cellsU L)) ∧ Below W.heap.size W w'
theorem NumGot.bad {W w' : World} {Lo : Option (List Nat)} (h : Lo = none) (hb : Below W.heap.size W w') : NumGot Lo W (.returned (.tuple #[.slice none 0 0, .bool false])) w' := by rw [h]; exact ⟨rfl, hb⟩
theorem NumGot.good {W w' : World} {Lo : Option (List Nat)} {L : List Nat} {v : Value} (h : Lo = some L) (ho : w'.ownsRow W.heap.size 47 1 v L.length (cellsU L)) (hb : Below W.heap.size W w') : NumGot Lo W (.returned (.tuple #[v, .bool true])) w' := by rw [h]; exact ⟨⟨v, rfl, ho⟩, hb⟩

set_option maxHeartbeats 4000000 in
set_option maxRecDepth 100000 in
theorem numbers_any {w : World} (env : Env w) (s : ByteArray) (hs : s.size ≤ 2000000) (c : UInt8) (base most : Nat) (hmost : most < 18446744073709551616) (hbase : base ≤ 16)
    (hpu : ∀ v, Env v → ∀ t : ByteArray, t.size ≤ 4000000 → Calls Tryz.prog 125 #[.string t, .int .i64 (base : Int), .int .i64 64] v (PuGot base 18446744073709551616 t.data.toList v)) :
    Calls Tryz.prog 141 #[.string s, .string ⟨#[c]⟩, .int .i64 (base : Int), .int .u64 (most : Int)] w (NumGot (numbersL c base (most + 1) s.data.toList) w) := by
  obtain ⟨i0, hi, hz0, hz1, hz2⟩ := info_parts info_u64
  have Henv := Lib.hid env
  have Hpu := Lib.hid hpu
  clear hpu
  by_cases hne : s.size = 0
  · have he : s = ⟨#[]⟩ := by
      apply ByteArray.ext
      exact Array.eq_empty_of_size_eq_zero hne
    rw [he]
    have hL : numbersL c base (most + 1) (⟨#[]⟩ : ByteArray).data.toList = some [] := rfl
    rw [hL]
    clear env hne hmost
    go_enter Tryz.func141, Tryz.ntmps141
    go_wp2_with fail
    go_ret2
    exact NumGot.good (v := .slice none 0 0) rfl (World.ownsRow_nil _ _ _ _) (Below.refl _ _)
  have hemp : s.toList.isEmpty = false := by
    rw [← decide_eq_emptyBytes]
    exact decide_eq_false (fun h => hne (by rw [h]; rfl))
  have hsl : s.data.toList.length = s.size := (Lib.size_eq s).symm
  have hnl : s.data.toList ≠ [] := fun e => hne (by rw [← hsl, e]; rfl)
  have hnum : numbersL c base (most + 1) s.data.toList = gather base (most + 1) (split1 c s.data.toList) [] := by unfold numbersL; rw [if_neg hnl]
  rw [hnum]
  have hsp := splitB_one s ⟨#[c]⟩ c rfl
  have hpl : ∀ t ∈ split1 c s.data.toList, t.length ≤ s.size := fun t ht => by have := split1_size ht; omega
  obtain ⟨m, hm⟩ := env.mx
  have HS := Lib.hid (Tryz.strings_Split s ⟨#[c]⟩ m w (by omega) hm (show 1 ≤ 1 from Nat.le_refl _))
  clear hm env hnum hnl hne
  generalize hP : Lib.splitB ⟨#[c]⟩ 0 (Lib.countB s ⟨#[c]⟩) s = P at hsp HS
  have hcount : Lib.countB s ⟨#[c]⟩ + 1 = P.length := by
    have := Lib.splitB_all (⟨#[c]⟩ : ByteArray) (show 1 ≤ 1 from Nat.le_refl _) 0 (Lib.countB s ⟨#[c]⟩) s rfl
    rw [hP] at this
    omega
  rw [hcount] at HS
  have hPl : P.length ≤ s.size + 1 := by
    have := congrArg List.length hsp
    rw [List.length_map] at this
    rw [this]
    have := split1_length c s.data.toList
    omega
  clear hP hcount hsl
  have hPat : ∀ k (hk : k < P.length), (split1 c s.data.toList).drop k = (P[k]'hk).data.toList :: (split1 c s.data.toList).drop (k + 1) ∧ (P[k]'hk).size ≤ 2000000 := by
    intro k hk
    have hkQ : k < (split1 c s.data.toList).length := by rw [← hsp, List.length_map]; exact hk
    have e : (split1 c s.data.toList)[k]'hkQ = (P[k]'hk).data.toList := by
      have : (P.map (·.data.toList))[k]'(by rw [List.length_map]; exact hk) = (P[k]'hk).data.toList := by simp
      rw [← this]
      congr 1
      exact hsp.symm
    refine ⟨by rw [List.drop_eq_getElem_cons hkQ, e], ?_⟩
    have h := hpl _ (List.getElem_mem hkQ)
    rw [e, ← Lib.size_eq] at h
    omega
  have hQl : (split1 c s.data.toList).length = P.length := by rw [← hsp, List.length_map]
  generalize split1 c s.data.toList = Q at hPat hQl ⊢
  have HPat := Lib.hid hPat
  have HQl := Lib.hid hQl
  have HPl := Lib.hid hPl
  clear hsp hpl hPat hQl hPl
  obtain ⟨N, hN⟩ : ∃ n, n = P.length := ⟨_, rfl⟩
  rw [← hN] at HS HPl HQl
  have hNs : N ≤ 2000001 := by have := HPl.out; omega
  have HN := Lib.hid hN
  clear hN
  obtain ⟨GR, hGR⟩ : ∃ g, g = gather base (most + 1) Q [] := ⟨_, rfl⟩
  rw [← hGR]
  have HGR := Lib.hid hGR
  clear hGR
  go_enter Tryz.func141, Tryz.ntmps141
  go_wp2_with (go_at_call 26; (with_reducible refine HS.out.mono ?_); rintro r w1 ⟨rfl, rfl⟩)
  have hrow : Blk (w.alloc (.cells (P.map Value.string).toArray 9)) w.heap.size 9 (P.map Value.string).toArray := Blk.new _ _ _
  have hb0 := boxed w (.cells (P.map Value.string).toArray 9)
  generalize w.alloc (.cells (P.map Value.string).toArray 9) = W0 at hrow hb0 ⊢
  have Hrow := Lib.hid hrow
  have Hb0 := Lib.hid hb0
  clear hrow hb0
  go_loopw [10, 21] (fun v10 v21 wr => ∃ (k : Nat) (acc : List Nat) (A : Option Addr) (cap : Nat), k ≤ N ∧ v21 = .int .i64 (k : Int) ∧ v10 = .slice A acc.length cap ∧ acc.length ≤ 9 ∧ RowKit.Hid (wr.ownsRow W0.heap.size 47 1 (.slice A acc.length cap) acc.length (cellsU acc)) ∧ RowKit.Hid (Below W0.heap.size W0 wr) ∧ RowKit.Hid (GR = gather base (most + 1) (Q.drop k) acc)) (fun _ v21 _ => N - (intOf v21).toNat)
  case atStart => exact ⟨0, [], none, 0, Nat.zero_le _, rfl, rfl, by simp, Lib.hid (World.ownsRow_nil _ _ _ _), Lib.hid (Below.refl _ _), HGR⟩
  case round =>
    obtain ⟨k, acc, A, cap, hk, rfl, rfl, hal, hown, hb, hg⟩ := hrel
    by_cases hlt : k < N
    · have hkP : k < P.length := by have := HN.out; omega
      have hp := HPat.out k hkP
      have cx := (hb.out.cell (p := ⟨w.heap.size, k, none⟩) Hrow.out.lt).trans (Hrow.out.cell k)
      rw [List.getElem?_toArray, List.getElem?_map, List.getElem?_eq_getElem hkP] at cx
      simp only [Option.map_some] at cx
      generalize P[k]'hkP = T at hp cx
      have hg2 := hg.out
      rw [hp.1] at hg2
      have HF := Lib.hid (Hpu.out wr ((Henv.out.below Hb0.out).below hb.out) T (by have := hp.2; omega))
      generalize T.data.toList = t at hp hg2 HF
      have Hg2 := Lib.hid hg2
      clear hp hg2 hg
      go_wp2_with fail
      go_at_call 125
      refine HF.out.mono ?_
      rintro e w2 ⟨⟨n, hn, rfl⟩ | ⟨hn, n, tp, p, hn64, rfl⟩, hb2⟩
      · have hb3 := Lib.hid (after hb.out hb2)
        have hsz3 : w.heap.size ≤ w2.heap.size := Nat.le_trans Hb0.out.size hb3.out.size
        have ho3 := Lib.hid (own_below hown.out hb2)
        have hb1 := num1_bound hn (B' := most + 1) (by omega)
        have hn64 := num1_lt hn
        clear hn hb2 cx
        by_cases hnm : most < n
        · have hGR : GR = none := by
            rw [Hg2.out]
            unfold gather
            rw [hb1, if_neg (by omega)]
          have HGR2 := Lib.hid hGR
          have hq : (most : Int) < (n : Int) := by omega
          clear hGR hb1
          go_wp2_with fail
          go_ret2
          exact NumGot.bad HGR2.out (after Hb0.out hb3.out)
        · have hq : ¬ (most : Int) < (n : Int) := by omega
          rw [if_pos (by omega)] at hb1
          by_cases h8 : 8 < acc.length
          · have hGR : GR = none := by
              rw [Hg2.out]
              unfold gather
              rw [hb1]
              simp only
              rw [if_pos h8]
            have HGR2 := Lib.hid hGR
            clear hGR hb1
            go_wp2_with fail
            go_ret2
            exact NumGot.bad HGR2.out (after Hb0.out hb3.out)
          · have hGR : GR = gather base (most + 1) (Q.drop (k + 1)) (acc ++ [n]) := by
              rw [Hg2.out]
              conv => lhs; unfold gather
              rw [hb1]
              simp only
              rw [if_neg h8]
            have HGR2 := Lib.hid hGR
            clear hGR hb1
            go_wp2_with (at_builtin; refine wpList_append_own _ rfl _ _ 197 rfl W0.heap.size 47 i0 (.int .u64 0) 1 8 Tryz.underlying197 hi hz0 hz1 hz2 rfl (by decide) _ acc.length _ rfl (ho3.out.alloc _) ⟨w2.heap.size, 0, none⟩ 1 1 [.int .u64 (n : Int)] rfl rfl (cell_one_new _ _ _) (fun x hx => by simp at hx; subst hx; rfl) (by unfold maxLen; omega) (by omega) (by have := hb3.out.size; simp; omega) ?_; intro v' w3 hown' hgrow3 hnil3; have Ho4 := Lib.hid hown'; have hbW := Lib.hid ((hb3.out.alloc (hb3.out.size) _).grown hgrow3 (by have := hb3.out.size; simp; omega) (fun q hq => (ho3.out.lt q hq).1)); clear hown' hgrow3 hnil3)
            obtain ⟨A', cap', rfl⟩ := own_shape Ho4.out
            go_roundw
            case rel => exact ⟨k + 1, acc ++ [n], A', cap', by omega, by go_num, by rw [List.length_append]; rfl, by rw [List.length_append, List.length_singleton]; omega, Lib.hid (by rw [cellsU_snoc, List.length_append]; exact Ho4.out), hbW, HGR2⟩
            case measure => simp [intOf]; omega
      · have hb3 := Lib.hid (after hb.out hb2)
        have hb1 := num1_none_of hn (B' := most + 1) (by omega)
        have hGR : GR = none := by
          rw [Hg2.out]
          unfold gather
          rw [hb1]
        have HGR2 := Lib.hid hGR
        clear hGR hb1 hn hb2 cx
        go_wp2_with fail
        go_ret2
        exact NumGot.bad HGR2.out (after Hb0.out hb3.out)
    · obtain rfl : k = N := by omega
      have hend : GR = some acc := by
        rw [hg.out, List.drop_of_length_le (by have := HQl.out; omega)]
        rfl
      have Hend := Lib.hid hend
      clear hend hg
      go_wp2_with fail
      go_ret2
      exact NumGot.good (v := .slice A acc.length cap) Hend.out (hown.out.mono Hb0.out.size) (after Hb0.out hb.out)
end Go.Proofs.YtbiglifngfgffaaGreatDoor

/- A line's words: the walk. -/
namespace Go.Proofs.YtbiglifngfgffaaGreatDoor
open Go.RowKit
attribute [local go_sem ↓] Go.wp_at_zero Go.wp_at_succ

/- A row of words as it lies in memory: each with its line and its place. -/
def wcells (n : Nat) : Nat → List ByteArray → List Value
  | _, [] => []
  | i, s :: r => .string s :: .int .i64 (n : Int) :: .int .i64 (i : Int) :: wcells n (i + 1) r
theorem wcells_snoc (n : Nat) (s : ByteArray) : ∀ (ws : List ByteArray) (i : Nat), wcells n i (ws ++ [s]) = wcells n i ws ++ [.string s, .int .i64 (n : Int), .int .i64 ((i + ws.length : Nat) : Int)] := by
  intro ws
  induction ws with
  | nil => intro i; rfl
  | cons x r ih =>
    intro i
    rw [List.cons_append, wcells, ih, wcells, List.length_cons, show i + 1 + r.length = i + (r.length + 1) by omega]
    rfl
theorem wcells_at (n : Nat) : ∀ (ws : List ByteArray) (i k : Nat) (s : ByteArray), ws[k]? = some s → (wcells n i ws)[k * 3]? = some (.string s) ∧ (wcells n i ws)[k * 3 + 1]? = some (.int .i64 (n : Int)) ∧ (wcells n i ws)[k * 3 + 2]? = some (.int .i64 ((i + k : Nat) : Int)) := by
  intro ws
  induction ws with
  | nil => intro i k s h; cases h
  | cons x r ih =>
    intro i k s h
    cases k with
    | zero =>
      injection h with h
      subst h
      exact ⟨rfl, rfl, rfl⟩
    | succ k =>
      obtain ⟨h1, h2, h3⟩ := ih (i + 1) k s h
      rw [show (k + 1) * 3 = k * 3 + 1 + 1 + 1 by omega, wcells]
      simp only [List.getElem?_cons_succ]
      rw [show i + (k + 1) = i + 1 + k by omega]
      exact ⟨h1, h2, h3⟩
theorem cells_new (w : World) (xs : List Value) (t : TypeId) : ∀ j u, xs[j]? = some u → (w.alloc (.cells xs.toArray t)).cell? ((⟨w.heap.size, 0, none⟩ : Addr).add j) = some u := by
  intro j u h
  have := (Blk.new w t xs.toArray).cell j
  rw [List.getElem?_toArray, h] at this
  rw [← this]
  congr 1
  simp [Addr.add]
  exact fun h => h.symm
theorem info_word : (Tryz.prog.info? 89).map (fun i => (i.zero, i.size, i.bytes)) = some (some (.agg #[.string ⟨#[]⟩, .int .i64 0, .int .i64 0]), 3, 32) := by kernel_rfl
theorem isBlank_any (x : Nat) (hx : x ≤ 1114111) (w : World) : Calls Tryz.prog 55 #[.int .i32 (x : Int)] w (Got (.bool (blankR x)) w) := by
  have hb0 := Below.refl w.heap.size w
  unfold blankR
  by_cases h1 : x = 32
  · subst h1
    go_enter Tryz.func55, Tryz.ntmps55
    go_wp2_with fail
    go_ret
    exact ⟨rfl, hb0⟩
  · have q1 : ((x : Int) == 32) = false := by simp; omega
    rw [decide_eq_false h1, Bool.false_or]
    by_cases h2 : x = 9
    · subst h2
      clear h1
      go_enter Tryz.func55, Tryz.ntmps55
      go_wp2_with fail
      go_ret
      exact ⟨rfl, hb0⟩
    · have q2 : ((x : Int) == 9) = false := by simp; omega
      rw [decide_eq_false h2]
      clear h1 h2
      go_enter Tryz.func55, Tryz.ntmps55
      go_wp2_with fail
      go_ret
      exact ⟨rfl, hb0⟩
/- What split hands back. -/
def Split (n : Nat) (ws : List ByteArray) (w : World) (r : Ending) (w' : World) : Prop := ∃ v, r = .returned v ∧ w'.ownsRow w.heap.size 89 3 v ws.length (wcells n 0 ws) ∧ Below w.heap.size w w'
theorem takeWhile_step (F : List ByteArray) (k : Nat) (hk : k < F.length) (p : ByteArray → Bool) (h : (F.take k).all p = true) : F.takeWhile p = if p F[k] = true then F.take (k + 1) ++ (F.drop (k + 1)).takeWhile p else F.take k := by
  have e : F = F.take k ++ F[k] :: F.drop (k + 1) := by rw [← List.drop_eq_getElem_cons hk]; exact (List.take_append_drop k F).symm
  conv => lhs; rw [e]
  rw [List.takeWhile_append_of_pos (fun x hx => List.all_eq_true.1 h x hx), List.takeWhile_cons, List.take_succ_eq_append_getElem hk]
  split
  · rw [List.append_assoc]; rfl
  · rw [List.append_nil]
theorem fieldsGo_ne : ∀ (l cur : List UInt8), ∀ x ∈ fieldsGo cur l, x ≠ [] := by
  intro l
  induction l with
  | nil =>
    intro cur x hx
    rw [fieldsGo] at hx
    split at hx
    · cases hx
    · next h => rw [List.mem_singleton.1 hx]; exact h
  | cons c r ih =>
    intro cur x hx
    rw [fieldsGo] at hx
    split at hx
    · split at hx
      · exact ih [] x hx
      · next h =>
        rcases List.mem_cons.1 hx with rfl | hx
        · exact h
        · exact ih [] x hx
    · exact ih _ x hx
theorem fieldsGo_len : ∀ (l cur : List UInt8), (fieldsGo cur l).length ≤ l.length + 1 ∧ ∀ x ∈ fieldsGo cur l, x.length ≤ cur.length + l.length := by
  intro l
  induction l with
  | nil =>
    intro cur
    rw [fieldsGo]
    split
    · exact ⟨by simp, fun x hx => (by cases hx)⟩
    · exact ⟨by simp, fun x hx => by rw [List.mem_singleton.1 hx]; simp⟩
  | cons c r ih =>
    intro cur
    rw [fieldsGo]
    split
    · obtain ⟨h1, h2⟩ := ih []
      split
      · exact ⟨by simp; omega, fun x hx => by have := h2 x hx; simp at this ⊢; omega⟩
      · refine ⟨by simp; omega, fun x hx => ?_⟩
        rcases List.mem_cons.1 hx with rfl | hx
        · simp
        · have := h2 x hx; simp at this ⊢; omega
    · obtain ⟨h1, h2⟩ := ih (cur ++ [c])
      exact ⟨by simp; omega, fun x hx => by have := h2 x hx; simp at this ⊢; omega⟩

set_option maxHeartbeats 8000000 in
set_option maxRecDepth 100000 in
theorem split_any (s : ByteArray) (hs : s.size ≤ 2000000) (n : Nat) (hn : n ≤ 4000000) (w : World) : Calls Tryz.prog 27 #[.string s, .int .i64 (n : Int)] w (Split n (wordsL s.data.toList) w) := by
  obtain ⟨i0, hi, hz0, hz1, hz2⟩ := info_parts info_word
  have hff := Tryz.strings_FieldsFunc_grows 55 #[] (fun args w => rfl) blankR s w (by omega) (fun W x hx _ => isBlank_any x hx W)
  rw [fields_are] at hff
  have hpl := fieldsGo_len s.data.toList []
  have hne := fieldsGo_ne s.data.toList []
  have hlen : s.data.toList.length = s.size := by rw [Array.length_toList]; rfl
  have hwd : wordsL s.data.toList = ((fieldsB s.data.toList).map ofL).takeWhile (fun b => plainWord b.data.toList) := by
    unfold wordsL
    rw [List.takeWhile_map]
    rfl
  rw [hwd]
  have hF : ∀ b ∈ (fieldsB s.data.toList).map ofL, 0 < b.size ∧ b.size ≤ 2000000 := by
    intro b hb
    obtain ⟨x, hx, rfl⟩ := List.mem_map.1 hb
    have h1 := hne x hx
    have h2 := hpl.2 x hx
    have : (ofL x).size = x.length := by unfold ofL; simp [ByteArray.size]
    rw [this]
    cases x with
    | nil => exact absurd rfl h1
    | cons c r => simp at h2 ⊢; omega
  have hFl : ((fieldsB s.data.toList).map ofL).length ≤ 2000001 := by
    rw [List.length_map]
    have := hpl.1
    unfold fieldsB
    omega
  generalize (fieldsB s.data.toList).map ofL = F at hff hF hFl ⊢
  clear hpl hne hlen hwd
  obtain ⟨N, hN⟩ : ∃ n, n = F.length := ⟨_, rfl⟩
  rw [← hN] at hff hFl
  have HFF := Lib.hid hff
  have HF := Lib.hid hF
  have HN := Lib.hid hN
  obtain ⟨WS, hWS⟩ : ∃ x, x = F.takeWhile (fun b => plainWord b.data.toList) := ⟨_, rfl⟩
  rw [← hWS]
  have HWS := Lib.hid hWS
  clear hff hF hN hWS hs
  go_enter Tryz.func27, Tryz.ntmps27
  go_wp2_with (go_at_call 54; (with_reducible refine HFF.out.mono ?_); rintro r w1 ⟨g, rfl, hg, hown, hb1⟩)
  have hrow : ∀ k (hk : k < F.length), w1.cell? ⟨g, k, none⟩ = some (.string F[k]) := by
    intro k hk
    rw [hown.cellAt k (by have := HN.out; omega), List.getElem?_map, List.getElem?_eq_getElem hk]
    rfl
  have hgl := hown.lt g rfl
  have Hrow := Lib.hid hrow
  have Hb1 := Lib.hid hb1
  clear hrow hown hb1
  go_loopw [4, 10] (fun v4 v10 wr => ∃ (k : Nat) (A : Option Addr) (cap : Nat), k ≤ N ∧ v10 = .int .i64 (k : Int) ∧ v4 = .slice A k cap ∧ RowKit.Hid (wr.ownsRow w1.heap.size 89 3 (.slice A k cap) k (wcells n 0 (F.take k))) ∧ RowKit.Hid (Below w1.heap.size w1 wr) ∧ RowKit.Hid ((F.take k).all (fun b => plainWord b.data.toList) = true)) (fun _ v10 _ => N - (intOf v10).toNat)
  case atStart => exact ⟨0, none, 0, Nat.zero_le _, rfl, rfl, Lib.hid (World.ownsRow_nil _ _ _ _), Lib.hid (Below.refl _ _), Lib.hid rfl⟩
  case round =>
    obtain ⟨k, A, cap, hk, rfl, rfl, hown, hb, hall⟩ := hrel
    by_cases hlt : k < N
    · have hkF : k < F.length := by have := HN.out; omega
      have cx := (hb.out.cell (p := ⟨g, k, none⟩) hgl.2).trans (Hrow.out k hkF)
      have hT := HF.out _ (List.getElem_mem hkF)
      have hstep := takeWhile_step F k hkF _ hall.out
      have htk := List.take_succ_eq_append_getElem hkF
      have hlk : (F.take k).length = k := List.length_take_of_le (by omega)
      have hw3 := wcells_snoc n F[k] (F.take k) 0
      rw [hlk, Nat.zero_add] at hw3
      generalize F[k] = TT at cx hT hstep htk hw3
      have h0 : 0 < TT.size := hT.1
      have hpw : plainWord TT.data.toList = decide ((TT[0]'h0).toNat ≠ 35) := by
        have hl : TT.data.toList.length = TT.size := by rw [Array.length_toList]; rfl
        have e0 : TT.data.toList[0]? = some (TT[0]'h0) := by
          rw [List.getElem?_eq_getElem (by omega)]
          simp
          rfl
        cases hs : TT.data.toList with
        | nil => rw [hs] at hl; simp at hl; omega
        | cons c r =>
          rw [hs] at e0
          injection e0 with e0
          rw [← e0]
          unfold plainWord
          have : (c = 35) ↔ c.toNat = 35 := ⟨fun h => by rw [h]; rfl, fun h => UInt8.toNat_inj.1 h⟩
          simp [this]
      generalize hx : (TT[0]'h0).toNat = x0 at hpw
      by_cases h35 : x0 = 35
      · have hres : WS = F.take k := by rw [HWS.out, hstep, hpw, if_neg (by simp [h35])]
        have Hres := Lib.hid hres
        rw [h35] at hx
        clear hres hstep htk hw3 hpw hT
        have Hlk := Lib.hid hlk
        clear hlk
        go_wp2_with fail
        go_ret
        refine ⟨_, rfl, ?_, after Hb1.out hb.out⟩
        rw [Hres.out, Hlk.out]
        exact hown.out.mono Hb1.out.size
      · have q1 : ((x0 : Int) == 35) = false := by simp; omega
        have hall2 : (F.take (k + 1)).all (fun b => plainWord b.data.toList) = true := by
          rw [htk, List.all_append, hall.out]
          simp [hpw, h35]
        have Hall2 := Lib.hid hall2
        have Htk := Lib.hid htk
        have Hw3 := Lib.hid hw3
        clear hall2 hstep htk hw3 hpw hT h35 hlk
        go_wp2_with (at_builtin; refine wpList_append_own _ rfl _ _ 78 rfl w1.heap.size 89 i0 (.agg #[.string ⟨#[]⟩, .int .i64 0, .int .i64 0]) 3 32 Tryz.underlying78 hi hz0 hz1 hz2 rfl (by decide) _ k _ rfl (hown.out.alloc _) ⟨wr.heap.size, 0, none⟩ 1 1 [.string TT, .int .i64 (n : Int), .int .i64 (k : Int)] rfl rfl (cells_new _ _ _) (by intro u hu; simp at hu; rcases hu with rfl | rfl | rfl <;> rfl) (by unfold maxLen; omega) (by omega) (by have := hb.out.size; simp; omega) ?_; intro v' w3 hown' hgrow3 hnil3; have Ho4 := Lib.hid hown'; have hbW := Lib.hid ((hb.out.alloc (hb.out.size) _).grown hgrow3 (by have := hb.out.size; simp; omega) (fun q hq => (hown.out.lt q hq).1)); clear hown' hgrow3 hnil3)
        obtain ⟨A', cap', rfl⟩ := own_shape Ho4.out
        go_roundw
        case rel => exact ⟨k + 1, A', cap', by omega, by go_num, rfl, Lib.hid (by rw [Htk.out, Hw3.out]; exact Ho4.out), hbW, Hall2⟩
        case measure => simp [intOf]; omega
    · obtain rfl : k = N := by omega
      have hres : WS = F := by
        have h2 := hall.out
        rw [List.take_of_length_le (by have := HN.out; omega)] at h2
        rw [HWS.out]
        exact takeWhile_all _ _ fun x hx => List.all_eq_true.1 h2 x hx
      have Hres := Lib.hid hres
      clear hres
      go_wp2_with fail
      go_ret
      refine ⟨_, rfl, ?_, after Hb1.out hb.out⟩
      have := hown.out.mono Hb1.out.size
      rw [List.take_of_length_le (by have := HN.out; omega)] at this
      rw [Hres.out, ← HN.out]
      exact this
end Go.Proofs.YtbiglifngfgffaaGreatDoor

/- The reader of a line: how it gives up, and its next word: the walks. -/
namespace Go.Proofs.YtbiglifngfgffaaGreatDoor
open Go.RowKit
attribute [local go_sem ↓] Go.wp_at_zero Go.wp_at_succ

/- A row of words in memory. -/
def WRow (w : World) (lv : Value) (ws : List ByteArray) (n : Nat) : Prop := ∃ base, w.ownsRow base 89 3 lv ws.length (wcells n 0 ws)
theorem WRow.shape {w : World} {lv : Value} {ws : List ByteArray} {n : Nat} (h : WRow w lv ws n) (hne : ws ≠ []) : ∃ g cap, lv = .slice (some ⟨g, 0, none⟩) ws.length cap ∧ ws.length ≤ cap ∧ (∃ cur, Blk w g 89 cur) ∧ ∀ j, j < ws.length * 3 → w.cell? ⟨g, j, none⟩ = (wcells n 0 ws)[j]? := by
  obtain ⟨base, h⟩ := h
  rcases h.2 with ⟨_, e⟩ | ⟨g, cap, cur, e, hb, hg, hc, _⟩
  · exact absurd (List.eq_nil_of_length_eq_zero e) hne
  · subst e
    exact ⟨g, cap, rfl, hc, ⟨cur, hg⟩, fun j hj => h.cellAt j hj⟩
theorem own_keep {w w' : World} {base size n : Nat} {e : TypeId} {v : Value} {xs : List Value} {S : Nat → Prop} (h : w.ownsRow base e size v n xs) (hk : Keeps S w w') (hS : ∀ g, v.ownBlock = some g → ¬ S g) : w'.ownsRow base e size v n xs := by
  refine ⟨h.1, ?_⟩
  rcases h.2 with h2 | ⟨g, cap, cur, e1, hb, hg, rest⟩
  · exact .inl h2
  · subst e1
    exact .inr ⟨g, cap, cur, rfl, hb, (hk.block g (Array.getElem?_eq_some_iff.1 hg).1 (hS g rfl)).trans hg, rest⟩
theorem WRow.keep {w w' : World} {lv : Value} {ws : List ByteArray} {n : Nat} {S : Nat → Prop} (h : WRow w lv ws n) (hk : Keeps S w w') (hS : ∀ g, lv.ownBlock = some g → ¬ S g) : WRow w' lv ws n := by
  obtain ⟨base, h⟩ := h
  exact ⟨base, own_keep h hk hS⟩
def RdB (w : World) (b : Nat) (lv : Value) (k P : Nat) (uv : Value) : Prop := Blk w b 81 #[lv, .int .i64 (k : Int), .pointer (some ⟨P, 0, none⟩), uv]
abbrev PanicAt (e n i : Nat) : Ending := .panicked [{ v := .iface 74 (.agg #[.int .i64 (e : Int), .int .i64 (n : Int), .int .i64 (i : Int)]), recovered := false }]

set_option maxHeartbeats 4000000 in
set_option maxRecDepth 100000 in
theorem wrong_any {w : World} {b P k n : Nat} {lv uv : Value} {ws : List ByteArray} (h : RdB w b lv k P uv) (hr : WRow w lv ws n) (hne : ws ≠ []) (hws : ws.length ≤ 4000000) (hk1 : 1 ≤ k) (hk : k ≤ 4000001) (e : Nat) : Calls Tryz.prog 61 #[.pointer (some ⟨b, 0, none⟩), .int .i64 (e : Int)] w fun r w' => r = PanicAt e n (if k ≤ ws.length then k - 1 else ws.length) ∧ Below w.heap.size w w' := by
  obtain ⟨g, cap, rfl, hcap, hg, hc⟩ := hr.shape hne
  obtain ⟨s0, hs0⟩ : ∃ s0, ws[0]? = some s0 := by
    cases ws with
    | nil => exact absurd rfl hne
    | cons x r => exact ⟨x, rfl⟩
  have hl : 0 < ws.length := by
    cases ws with
    | nil => exact absurd rfl hne
    | cons x r => simp
  obtain ⟨_, w1, _⟩ := wcells_at n ws 0 0 s0 hs0
  have c1 := (hc 1 (by omega)).trans w1
  have r0 := h.cell 0
  have r1 := h.cell 1
  simp at r0 r1
  generalize ws.length = N at r0 hl hws hcap h ⊢
  have i1 : (0 : Int) < (N : Int) := by omega
  have hbx := boxed w.drew (.cells #[.int .i64 (e : Int), .int .i64 (n : Int), .int .i64 (N : Int)] 34)
  obtain ⟨I, hI⟩ : ∃ I, I = if k ≤ N then k - 1 else N := ⟨_, rfl⟩
  rw [← hI]
  have HI := Lib.hid hI
  clear hc hs0 w1 hr hI
  go_enter Tryz.func61, Tryz.ntmps61
  go_upto_region 0 with fail
  go_region_held3 (fun w' => w'.cell? ⟨b, 0, none⟩ = some (.slice (some ⟨g, 0, none⟩) N cap) ∧ w'.cell? ⟨b, 1, none⟩ = some (.int .i64 (k : Int)) ∧ w'.cell? ⟨g, 1, none⟩ = some (.int .i64 (n : Int))) (go_keep) (fail)
  have hF := (Blk.new w 34 #[.int .i64 (e : Int), .int .i64 (n : Int), .int .i64 (N : Int)]).drew
  have hb1 := (boxed w (.cells #[.int .i64 (e : Int), .int .i64 (n : Int), .int .i64 (N : Int)] 34)).drew
  have hR := (h.alloc (.cells #[.int .i64 (e : Int), .int .i64 (n : Int), .int .i64 (N : Int)] 34)).drew
  clear r0 r1 c1 hbx h
  generalize (w.alloc (.cells #[.int .i64 (e : Int), .int .i64 (n : Int), .int .i64 (N : Int)] 34)).drew = W1 at hF hb1 hR ⊢
  generalize hgF : w.heap.size = gF at hF ⊢
  have r0 := hR.cell 0
  have r1 := hR.cell 1
  have f0 := hF.cell 0
  have f1 := hF.cell 1
  have f2 := hF.cell 2
  have z2 := hF.frozen 2
  simp at r0 r1 f0 f1 f2
  by_cases hkN : k ≤ N
  · have q1 : (k : Int) ≤ (N : Int) := by omega
    have hI := HI.out
    rw [if_pos hkN] at hI
    have Hi := Lib.hid hI
    clear hI HI
    have i2 : IntKind.i64.wrap ((k : Int) - 1) = (k : Int) - 1 := by rw [IntKind.wrap_i64]; omega
    go_upto_region 1 with fail
    go_quiet (fail)
    go_wp2_with fail
    all_goals
      rw [Hi.out]
      refine ⟨rfl, ?_, (show Below w.heap.size w (W1.drewN nq) from ⟨hb1.os, hb1.tape, hb1.output, hb1.size, hb1.block⟩).setCell (Nat.le_of_eq hgF) _⟩
      unfold PanicAt
      rw [show ((k - 1 : Nat) : Int) = (k : Int) - 1 by omega]
  · have q1 : ¬ (k : Int) ≤ (N : Int) := by omega
    have hI := HI.out
    rw [if_neg hkN] at hI
    have Hi := Lib.hid hI
    clear hI HI
    go_upto_region 1 with fail
    go_quiet (fail)
    go_wp2_with fail
    all_goals
      rw [Hi.out]
      refine ⟨rfl, rfl, ?_⟩
      have hB : Below w.heap.size w (W1.drewN nq) := ⟨hb1.os, hb1.tape, hb1.output, hb1.size, hb1.block⟩
      first | exact hB | exact hgF ▸ hB
theorem keeps_then {S : Nat → Prop} {a w w' : World} (h : Keeps S a w) (k : Below w.heap.size w w') : Keeps S a w' := h.trans (Keeps.of_below k fun q hq _ => hq)
theorem setRow_keeps {w : World} {b : Nat} (p : Nat) (v : Value) : Keeps (fun x => x = b) w (w.setCell ⟨b, p, none⟩ v) := by
  refine Keeps.setCell (Keeps.refl (fun x => x = b) w) (p := ⟨b, p, none⟩) ?_ v
  exact Or.inl rfl

/- What a word that is taken comes to. -/
def TakeR (ws : List ByteArray) (k n : Nat) (r : Ending) : Prop := match ws[k]? with
  | some s => r = .returned (.string s)
  | none => r = PanicAt 190 n ws.length
theorem TakeR.some {ws : List ByteArray} {k n : Nat} {s : ByteArray} (h : ws[k]? = some s) : TakeR ws k n (.returned (.string s)) := by unfold TakeR; rw [h]
theorem TakeR.none {ws : List ByteArray} {k n N : Nat} (h : ws[k]? = none) (hN : ws.length = N) : TakeR ws k n (PanicAt 190 n N) := by unfold TakeR; rw [h, hN]

set_option maxHeartbeats 4000000 in
set_option maxRecDepth 100000 in
theorem take_any {w : World} {b P k n : Nat} {lv uv : Value} {ws : List ByteArray} (h : RdB w b lv k P uv) (hr : WRow w lv ws n) (hne : ws ≠ []) (hws : ws.length ≤ 4000000) (hk : k ≤ ws.length) : Calls Tryz.prog 29 #[.pointer (some ⟨b, 0, none⟩)] w fun r w' => Keeps (fun x => x = b) w w' ∧ RdB w' b lv (k + 1) P uv ∧ TakeR ws k n r := by
  obtain ⟨g, cap, rfl, hcap, hg, hc⟩ := hr.shape hne
  have hw := fun (w' : World) (h' : RdB w' b (.slice (some ⟨g, 0, none⟩) ws.length cap) (k + 1) P uv) (hr' : WRow w' (.slice (some ⟨g, 0, none⟩) ws.length cap) ws n) => wrong_any h' hr' hne hws (by omega) (by omega) 190
  have i1 : IntKind.i64.wrap ((k : Int) + 1) = (k : Int) + 1 := by rw [IntKind.wrap_i64]; omega
  have r0 := h.cell 0
  have r1 := h.cell 1
  have z1 := h.frozen 1
  simp at r0 r1
  obtain ⟨cur, hgB⟩ := hg
  have hgb : g ≠ b := hgB.ne_ h (by decide)
  have hK := @setRow_keeps w b 1 (.int .i64 ((k : Int) + 1))
  have hS := h.set_ 1 (.int .i64 ((k : Int) + 1))
  have hr2 := hr.keep hK (fun q hq => by injection hq with hq; rw [← hq]; exact hgb)
  have hS2 : RdB (w.setCell ⟨b, 1, none⟩ (.int .i64 ((k : Int) + 1))) b (.slice (some ⟨g, 0, none⟩) ws.length cap) (k + 1) P uv := hS
  have hw2 : k = ws.length → ∀ q, Calls Tryz.prog 61 #[.pointer (some ⟨b, 0, none⟩), .int .i64 190] ((w.setCell ⟨b, 1, none⟩ (.int .i64 ((k : Int) + 1))).drewN q) fun r w' => r = PanicAt 190 n ws.length ∧ Below ((w.setCell ⟨b, 1, none⟩ (.int .i64 ((k : Int) + 1))).drewN q).heap.size ((w.setCell ⟨b, 1, none⟩ (.int .i64 ((k : Int) + 1))).drewN q) w' := fun hkk q =>
    (hw ((w.setCell ⟨b, 1, none⟩ (.int .i64 ((k : Int) + 1))).drewN q) hS2 hr2).mono (by rintro r w' ⟨h1, h2⟩; rw [if_neg (by omega)] at h1; exact ⟨h1, h2⟩)
  clear hw
  have HS2 := Lib.hid hS2
  have HK := Lib.hid hK
  have Hgw := Lib.hid (fun j hj => (((hgB.far (p := ⟨b, 1, none⟩) hgb (.int .i64 ((k : Int) + 1))).cell j).trans (hgB.cell j).symm).trans (hc j hj))
  by_cases hkN : k < ws.length
  · obtain ⟨s, hs⟩ : ∃ s, ws[k]? = some s := ⟨_, List.getElem?_eq_getElem hkN⟩
    have c0 := (Hgw.out (k * 3) (by omega)).trans (wcells_at n ws 0 k s hs).1
    have Hs := Lib.hid hs
    have s0 := hS.cell 0
    have s1 := hS.cell 1
    simp at s0 s1
    clear hw2
    generalize hN : ws.length = N at *
    have q1 : ¬ (N : Int) < (k : Int) + 1 := by omega
    have q2 : IntKind.i64.wrap ((k : Int) + 1 - 1) = (k : Int) := by rw [IntKind.wrap_i64]; omega
    clear hr2 hS hS2 hK hc hs h hr hgB
    go_enter Tryz.func29, Tryz.ntmps29
    go_upto_region 2 with fail
    generalize w.setCell ⟨b, 1, none⟩ (.int .i64 ((k : Int) + 1)) = w1 at *
    go_quiet (fail)
    go_upto_region 4 with fail
    go_quiet (fail)
    go_wp2_with fail
    refine bodyPost_ret (results_tmp rfl _ _ _) rfl ?_
    exact ⟨⟨HK.out.os, HK.out.tape, HK.out.output, HK.out.size, HK.out.block⟩, HS2.out, TakeR.some Hs.out⟩
  · have hkN' : k = ws.length := by omega
    have hs : ws[k]? = none := List.getElem?_eq_none (by omega)
    have Hs := Lib.hid hs
    have s0 := hS.cell 0
    have s1 := hS.cell 1
    simp at s0 s1
    have HW := Lib.hid (hw2 hkN')
    clear hw2
    generalize hN : ws.length = N at *
    have q1 : (N : Int) < (k : Int) + 1 := by omega
    clear hkN' hkN hk hr2 hS hS2 hK hc hs h hr hgB
    go_enter Tryz.func29, Tryz.ntmps29
    go_upto_region 2 with fail
    generalize w.setCell ⟨b, 1, none⟩ (.int .i64 ((k : Int) + 1)) = w1 at *
    go_quiet (fail)
    go_wp2_with (go_at_call 61; (with_reducible refine (HW.out _).mono ?_); rintro r w2 ⟨rfl, d2⟩; unfold PanicAt)
    refine ⟨rfl, ?_, ?_, TakeR.none Hs.out hN⟩
    · exact keeps_then (HK.out.drewN nq) d2
    · refine Blk.below ?_ d2 ?_
      · exact HS2.out
      · exact HS2.out.lt
end Go.Proofs.YtbiglifngfgffaaGreatDoor

/- The reader's small words: the walks. -/
namespace Go.Proofs.YtbiglifngfgffaaGreatDoor
open Go.RowKit

/- A reader at its next word. -/
structure Rs (w : World) (b P k n : Nat) (lv uv : Value) (ws : List ByteArray) : Prop where
  blk : RdB w b lv k P uv
  row : WRow w lv ws n
  ne : ws ≠ []
  len : ws.length ≤ 2000000
  sizes : ∀ s ∈ ws, s.size ≤ 2000000
theorem Rs.sep {w : World} {b P k n : Nat} {lv uv : Value} {ws : List ByteArray} (h : Rs w b P k n lv uv ws) : ∀ g, lv.ownBlock = some g → g ≠ b := by
  obtain ⟨g, cap, e, _, ⟨cur, hg⟩, _⟩ := h.row.shape h.ne
  intro q hq
  rw [e] at hq
  injection hq with hq
  rw [← hq]
  exact hg.ne_ h.blk (by decide)
theorem Rs.step {w w' : World} {b P k k' n : Nat} {lv uv uv' : Value} {ws : List ByteArray} (h : Rs w b P k n lv uv ws) (hk : Keeps (fun x => x = b) w w') (hb : RdB w' b lv k' P uv') : Rs w' b P k' n lv uv' ws :=
  ⟨hb, h.row.keep hk fun g hg e => h.sep g hg e, h.ne, h.len, h.sizes⟩
theorem Rs.below {w w' : World} {b P k n : Nat} {lv uv : Value} {ws : List ByteArray} (h : Rs w b P k n lv uv ws) (hb : Below w.heap.size w w') : Rs w' b P k n lv uv ws :=
  h.step (Keeps.of_below hb fun q hq _ => hq) (h.blk.below hb h.blk.lt)
/- Where a reader that gives up says that it stands. -/
def atW (k : Nat) (ws : List ByteArray) : Nat := if k ≤ ws.length then k - 1 else ws.length
def UnlessR (is : Bool) (e n i : Nat) (r : Ending) : Prop := match is with
  | true => r = .returned (.tuple #[])
  | false => r = PanicAt e n i

theorem Rs.wrong {w : World} {b P k n : Nat} {lv uv : Value} {ws : List ByteArray} (h : Rs w b P k n lv uv ws) (hk1 : 1 ≤ k) (hk : k ≤ ws.length + 1) (e : Nat) : Calls Tryz.prog 61 #[.pointer (some ⟨b, 0, none⟩), .int .i64 (e : Int)] w fun r w' => r = PanicAt e n (atW k ws) ∧ Below w.heap.size w w' :=
  wrong_any h.blk h.row h.ne (by have := h.len; omega) hk1 (by have := h.len; omega) e

set_option maxHeartbeats 2000000 in
set_option maxRecDepth 100000 in
theorem Rs.unless {w : World} {b P k n : Nat} {lv uv : Value} {ws : List ByteArray} (h : Rs w b P k n lv uv ws) (hk1 : 1 ≤ k) (hk : k ≤ ws.length + 1) (is : Bool) (e : Nat) : Calls Tryz.prog 30 #[.pointer (some ⟨b, 0, none⟩), .bool is, .int .i64 (e : Int)] w fun r w' => UnlessR is e n (atW k ws) r ∧ Below w.heap.size w w' := by
  have HW := Lib.hid (h.wrong hk1 hk e)
  have hb0 := Below.refl w.heap.size w
  clear h hk1 hk
  cases is with
  | true =>
    go_enter Tryz.func30, Tryz.ntmps30
    go_wp2_with fail
    refine ⟨rfl, _, results_none rfl _ _ _, rfl, hb0⟩
  | false =>
    go_enter Tryz.func30, Tryz.ntmps30
    go_wp2_with (go_at_call 61; (with_reducible refine HW.out.mono ?_); rintro r w2 ⟨rfl, d2⟩; unfold PanicAt)
    exact ⟨rfl, rfl, d2⟩

set_option maxHeartbeats 2000000 in
set_option maxRecDepth 100000 in
theorem Rs.room {w : World} {b P k n : Nat} {lv uv : Value} {ws : List ByteArray} (h : Rs w b P k n lv uv ws) (hk1 : 1 ≤ k) (hk : k ≤ ws.length + 1) (m : Nat) : Calls Tryz.prog 91 #[.pointer (some ⟨b, 0, none⟩), .int .i64 (m : Int)] w fun r w' => UnlessR (decide (m < 64)) 198 n (atW k ws) r ∧ Below w.heap.size w w' := by
  have hu := h.unless hk1 hk (decide (m < 64)) 198
  clear h hk1 hk
  by_cases hm : m < 64
  · have q : (m : Int) < 64 := by omega
    rw [decide_eq_true hm] at hu ⊢
    have HU : RowKit.Hid (Calls Tryz.prog 30 #[.pointer (some ⟨b, 0, none⟩), .bool true, .int .i64 198] w fun r w' => UnlessR true 198 n (atW k ws) r ∧ Below w.heap.size w w') := Lib.hid hu
    clear hu hm
    go_enter Tryz.func91, Tryz.ntmps91
    go_wp2_with (go_at_call 30; (with_reducible refine HU.out.mono ?_); rintro r w2 ⟨h1, d2⟩; unfold UnlessR at h1; subst h1)
    refine ⟨rfl, _, results_none rfl _ _ _, rfl, d2⟩
  · have q : ¬ (m : Int) < 64 := by omega
    rw [decide_eq_false hm] at hu ⊢
    have HU : RowKit.Hid (Calls Tryz.prog 30 #[.pointer (some ⟨b, 0, none⟩), .bool false, .int .i64 198] w fun r w' => UnlessR false 198 n (atW k ws) r ∧ Below w.heap.size w w') := Lib.hid hu
    clear hu hm
    go_enter Tryz.func91, Tryz.ntmps91
    go_wp2_with (go_at_call 30; (with_reducible refine HU.out.mono ?_); rintro r w2 ⟨h1, d2⟩; unfold UnlessR at h1; subst h1; unfold PanicAt)
    exact ⟨rfl, rfl, d2⟩

set_option maxHeartbeats 2000000 in
set_option maxRecDepth 100000 in
theorem Rs.more {w : World} {b P k n : Nat} {lv uv : Value} {ws : List ByteArray} (h : Rs w b P k n lv uv ws) : Calls Tryz.prog 94 #[.pointer (some ⟨b, 0, none⟩)] w (Got (.bool (decide (k < ws.length))) w) := by
  obtain ⟨g, cap, e, hcap, _, _⟩ := h.row.shape h.ne
  have hB := h.blk
  rw [e] at hB
  have r0 := hB.cell 0
  have r1 := hB.cell 1
  simp at r0 r1
  have hl := h.len
  have hb0 := Below.refl w.heap.size w
  generalize ws.length = N at *
  have qd : decide ((k : Int) < (N : Int)) = decide (k < N) := by simp
  obtain ⟨D, hD⟩ : ∃ d, d = decide (k < N) := ⟨_, rfl⟩
  rw [← hD] at qd ⊢
  have HD := Lib.hid hD
  clear hB h e hD
  go_enter Tryz.func94, Tryz.ntmps94
  go_upto_region 1 with fail
  go_quiet (fail)
  go_wp2_with fail
  refine bodyPost_ret (results_tmp rfl _ _ _) rfl ⟨?_, ⟨rfl, rfl, rfl, Nat.le_refl _, fun _ _ => rfl⟩⟩
  rw [HD.out]
  rfl

/- A name; a word that must be one. -/
def NameR (ws : List ByteArray) (k n : Nat) (r : Ending) : Prop := match ws[k]? with
  | none => r = PanicAt 190 n ws.length
  | some s => if labelB s = true then r = .returned (.string s) else r = PanicAt 191 n k
def MustR (ws : List ByteArray) (t : ByteArray) (k n : Nat) (r : Ending) : Prop := match ws[k]? with
  | none => r = PanicAt 190 n ws.length
  | some s => if s = t then r = .returned (.tuple #[]) else r = PanicAt 190 n k
theorem Rs.take {w : World} {b P k n : Nat} {lv uv : Value} {ws : List ByteArray} (h : Rs w b P k n lv uv ws) (hk : k ≤ ws.length) : Calls Tryz.prog 29 #[.pointer (some ⟨b, 0, none⟩)] w fun r w' => (Keeps (fun x => x = b) w w' ∧ Rs w' b P (k + 1) n lv uv ws) ∧ TakeR ws k n r :=
  (take_any h.blk h.row h.ne (by have := h.len; omega) hk).mono fun r w' ⟨h1, h2, h3⟩ => ⟨⟨h1, h.step h1 h2⟩, h3⟩
theorem atW_take {k : Nat} {ws : List ByteArray} (h : k < ws.length) : atW (k + 1) ws = k := by unfold atW; rw [if_pos (by omega)]; omega

set_option maxHeartbeats 2000000 in
set_option maxRecDepth 100000 in
theorem Rs.name {w : World} {b P k n : Nat} {lv uv : Value} {ws : List ByteArray} (h : Rs w b P k n lv uv ws) (hk : k ≤ ws.length) : Calls Tryz.prog 92 #[.pointer (some ⟨b, 0, none⟩)] w fun r w' => (Keeps (fun x => x = b) w w' ∧ Rs w' b P (k + 1) n lv uv ws) ∧ NameR ws k n r := by
  have HT := Lib.hid (h.take hk)
  unfold TakeR at HT
  cases hs : ws[k]? with
  | none =>
    have hpost : ∀ r, NameR ws k n r ↔ r = PanicAt 190 n ws.length := fun r => by unfold NameR; rw [hs]
    simp only [hpost]
    rw [hs] at HT
    have HT' : RowKit.Hid (Calls Tryz.prog 29 #[.pointer (some ⟨b, 0, none⟩)] w fun r w' => (Keeps (fun x => x = b) w w' ∧ Rs w' b P (k + 1) n lv uv ws) ∧ r = PanicAt 190 n ws.length) := HT
    clear HT hs hpost h hk
    go_enter Tryz.func92, Tryz.ntmps92
    go_wp2_with (go_at_call 29; (with_reducible refine HT'.out.mono ?_); rintro r w2 ⟨d2, rfl⟩; unfold PanicAt)
    exact ⟨rfl, d2, rfl⟩
  | some s =>
    have hlt : k < ws.length := (List.getElem?_eq_some_iff.1 hs).1
    have hsz := h.sizes s (List.mem_of_getElem? hs)
    have hpost : ∀ r, NameR ws k n r ↔ (if labelB s = true then r = .returned (.string s) else r = PanicAt 191 n k) := fun r => by unfold NameR; rw [hs]
    simp only [hpost]
    rw [hs] at HT
    have HT' : RowKit.Hid (Calls Tryz.prog 29 #[.pointer (some ⟨b, 0, none⟩)] w fun r w' => (Keeps (fun x => x = b) w w' ∧ Rs w' b P (k + 1) n lv uv ws) ∧ r = .returned (.string s)) := HT
    have HL := Lib.hid fun u => label_any s (by omega) u
    have hu := fun (u : World) (hr : Rs u b P (k + 1) n lv uv ws) => hr.unless (by omega) (by omega) (labelB s) 191
    rw [atW_take hlt] at hu
    generalize labelB s = LB at *
    cases LB with
    | true =>
      simp only [if_true]
      have HU : RowKit.Hid (∀ (u : World), Rs u b P (k + 1) n lv uv ws → Calls Tryz.prog 30 #[.pointer (some ⟨b, 0, none⟩), .bool true, .int .i64 191] u fun r w' => r = .returned (.tuple #[]) ∧ Below u.heap.size u w') := Lib.hid hu
      clear HT hs hpost h hk hu hlt hsz
      go_enter Tryz.func92, Tryz.ntmps92
      go_wp2_with (first
        | (go_at_call 29; (with_reducible refine HT'.out.mono ?_); rintro r w2 ⟨⟨d2, e2⟩, rfl⟩)
        | (go_at_call 16; (with_reducible refine (HL.out _).mono ?_); rintro r w3 ⟨rfl, d3⟩)
        | (go_at_call 30; (with_reducible refine (HU.out _ (e2.below d3)).mono ?_); rintro r w4 ⟨rfl, d4⟩))
      refine bodyPost_ret (results_tmp rfl _ _ _) rfl ⟨⟨keeps_then (keeps_then d2 d3) d4, (e2.below d3).below d4⟩, rfl⟩
    | false =>
      simp only [Bool.false_eq_true, if_false]
      have HU : RowKit.Hid (∀ (u : World), Rs u b P (k + 1) n lv uv ws → Calls Tryz.prog 30 #[.pointer (some ⟨b, 0, none⟩), .bool false, .int .i64 191] u fun r w' => r = PanicAt 191 n k ∧ Below u.heap.size u w') := Lib.hid hu
      clear HT hs hpost h hk hu hlt hsz
      go_enter Tryz.func92, Tryz.ntmps92
      go_wp2_with (first
        | (go_at_call 29; (with_reducible refine HT'.out.mono ?_); rintro r w2 ⟨⟨d2, e2⟩, rfl⟩)
        | (go_at_call 16; (with_reducible refine (HL.out _).mono ?_); rintro r w3 ⟨rfl, d3⟩)
        | (go_at_call 30; (with_reducible refine (HU.out _ (e2.below d3)).mono ?_); rintro r w4 ⟨rfl, d4⟩; unfold PanicAt))
      exact ⟨rfl, ⟨keeps_then (keeps_then d2 d3) d4, (e2.below d3).below d4⟩, rfl⟩

set_option maxHeartbeats 2000000 in
set_option maxRecDepth 100000 in
theorem Rs.must {w : World} {b P k n : Nat} {lv uv : Value} {ws : List ByteArray} (h : Rs w b P k n lv uv ws) (hk : k ≤ ws.length) (t : ByteArray) : Calls Tryz.prog 93 #[.pointer (some ⟨b, 0, none⟩), .string t] w fun r w' => (Keeps (fun x => x = b) w w' ∧ Rs w' b P (k + 1) n lv uv ws) ∧ MustR ws t k n r := by
  have HT := Lib.hid (h.take hk)
  unfold TakeR at HT
  cases hs : ws[k]? with
  | none =>
    have hpost : ∀ r, MustR ws t k n r ↔ r = PanicAt 190 n ws.length := fun r => by unfold MustR; rw [hs]
    simp only [hpost]
    rw [hs] at HT
    have HT' : RowKit.Hid (Calls Tryz.prog 29 #[.pointer (some ⟨b, 0, none⟩)] w fun r w' => (Keeps (fun x => x = b) w w' ∧ Rs w' b P (k + 1) n lv uv ws) ∧ r = PanicAt 190 n ws.length) := HT
    clear HT hs hpost h hk
    go_enter Tryz.func93, Tryz.ntmps93
    go_wp2_with (go_at_call 29; (with_reducible refine HT'.out.mono ?_); rintro r w2 ⟨d2, rfl⟩; unfold PanicAt)
    exact ⟨rfl, d2, rfl⟩
  | some s =>
    have hlt : k < ws.length := (List.getElem?_eq_some_iff.1 hs).1
    have hpost : ∀ r, MustR ws t k n r ↔ (if s = t then r = .returned (.tuple #[]) else r = PanicAt 190 n k) := fun r => by unfold MustR; rw [hs]
    simp only [hpost]
    rw [hs] at HT
    have HT' : RowKit.Hid (Calls Tryz.prog 29 #[.pointer (some ⟨b, 0, none⟩)] w fun r w' => (Keeps (fun x => x = b) w w' ∧ Rs w' b P (k + 1) n lv uv ws) ∧ r = .returned (.string s)) := HT
    have hu := fun (u : World) (hr : Rs u b P (k + 1) n lv uv ws) => hr.wrong (by omega) (by omega) 190
    rw [atW_take hlt] at hu
    by_cases e : s = t
    · subst e
      simp only [if_true]
      have hss : (s.toList == s.toList) = true := by simp
      clear HT hs hpost h hk hu hlt
      go_enter Tryz.func93, Tryz.ntmps93
      go_wp2_with (go_at_call 29; (with_reducible refine HT'.out.mono ?_); rintro r w2 ⟨⟨d2, e2⟩, rfl⟩)
      refine ⟨rfl, _, results_none rfl _ _ _, ⟨d2, e2⟩, rfl⟩
    · simp only [if_neg e]
      have hss : (s.toList == t.toList) = false := by
        rw [beq_eq_false_iff_ne]
        intro h
        rw [ByteArray.toList_eq, ByteArray.toList_eq] at h
        exact e (ByteArray.ext (Array.ext' h))
      have HU : RowKit.Hid (∀ (u : World), Rs u b P (k + 1) n lv uv ws → Calls Tryz.prog 61 #[.pointer (some ⟨b, 0, none⟩), .int .i64 190] u fun r w' => r = PanicAt 190 n k ∧ Below u.heap.size u w') := Lib.hid hu
      clear HT hs hpost h hk hu hlt e
      go_enter Tryz.func93, Tryz.ntmps93
      go_wp2_with (first
        | (go_at_call 29; (with_reducible refine HT'.out.mono ?_); rintro r w2 ⟨⟨d2, e2⟩, rfl⟩)
        | (go_at_call 61; (with_reducible refine (HU.out _ e2).mono ?_); rintro r w4 ⟨rfl, d4⟩; unfold PanicAt))
      exact ⟨rfl, ⟨keeps_then d2 d4, e2.below d4⟩, rfl⟩
end Go.Proofs.YtbiglifngfgffaaGreatDoor

/- Is a name told? (has, hasHost): the walks. -/
namespace Go.Proofs.YtbiglifngfgffaaGreatDoor
open Go.RowKit
attribute [local go_sem ↓] Go.wp_at_zero Go.wp_at_succ

/- A row as it is read: cell by cell. -/
def RowR (w : World) (v : Value) (n size : Nat) (xs : List Value) : Prop := ∃ A cap, v = .slice A n cap ∧ xs.length = n * size ∧ (0 < n → ∃ g o, A = some ⟨g, o, none⟩ ∧ ∀ j u, xs[j]? = some u → w.cell? ⟨g, o + j, none⟩ = some u)
theorem RowR.of_own {w : World} {base size n : Nat} {e : TypeId} {v : Value} {xs : List Value} (h : w.ownsRow base e size v n xs) : RowR w v n size xs := by
  rcases h.2 with ⟨e1, e2⟩ | ⟨g, cap, cur, e1, hb, hg, rest⟩
  · subst e1 e2
    exact ⟨none, 0, rfl, h.1, fun h => absurd h (by decide)⟩
  · subst e1
    refine ⟨_, cap, rfl, h.1, fun _ => ⟨g, 0, rfl, fun j u hu => ?_⟩⟩
    have hj : j < n * size := by rw [← h.1]; exact (List.getElem?_eq_some_iff.1 hu).1
    rw [Nat.zero_add, h.cellAt j hj]
    exact hu
theorem RowR.below {w w' : World} {v : Value} {n size : Nat} {xs : List Value} (h : RowR w v n size xs) (hb : Below w.heap.size w w') : RowR w' v n size xs := by
  obtain ⟨A, cap, h1, h2, h3⟩ := h
  refine ⟨A, cap, h1, h2, fun hn => ?_⟩
  obtain ⟨g, o, ha, hc⟩ := h3 hn
  exact ⟨g, o, ha, fun j u hu => (hb.cell (World.block_lt_of_cell? w _ (hc j u hu))).trans (hc j u hu)⟩
/- A row of groups as its names tell it; lv: where each one's names lie. -/
def nmCells (l : List (ByteArray × Value)) : List Value := l.flatMap fun x => [Value.string x.1, x.2]
theorem nmCells_at : ∀ (l : List (ByteArray × Value)) (k : Nat) (x : ByteArray × Value), l[k]? = some x → (nmCells l)[k * 2]? = some (.string x.1) ∧ (nmCells l)[k * 2 + 1]? = some x.2 := by
  intro l
  induction l with
  | nil => intro k x h; cases h
  | cons y r ih =>
    intro k x h
    cases k with
    | zero => injection h with h; subst h; exact ⟨rfl, rfl⟩
    | succ k =>
      obtain ⟨h1, h2⟩ := ih k x h
      rw [show (k + 1) * 2 = k * 2 + 1 + 1 by omega]
      exact ⟨h1, h2⟩

set_option maxHeartbeats 2000000 in
set_option maxRecDepth 100000 in
theorem has1_any {w : World} (g : Nat) (s x : ByteArray) (v : Value) (hg : w.cell? ⟨g, 0, none⟩ = some (.string s)) : Calls Tryz.prog 100 #[.agg #[.string x, v], .pointer (some ⟨g, 0, none⟩)] w (Got (.bool (decide (x = s))) w) := by
  have hx := Blk.new w 46 #[.string x, v]
  have hb := boxed w (.cells #[.string x, v] 46)
  have hg2 := (hb.cell (p := ⟨g, 0, none⟩) (World.block_lt_of_cell? w _ hg)).trans hg
  have x0 := hx.cell 0
  simp at x0
  have hd : (x.toList == s.toList) = decide (x = s) := by
    by_cases e : x = s
    · subst e; simp
    · rw [decide_eq_false e, beq_eq_false_iff_ne]
      intro h
      rw [ByteArray.toList_eq, ByteArray.toList_eq] at h
      exact e (ByteArray.ext (Array.ext' h))
  obtain ⟨D, hD⟩ : ∃ D, D = decide (x = s) := ⟨_, rfl⟩
  rw [← hD] at hd ⊢
  clear hD hx
  go_enter Tryz.func100, Tryz.ntmps100
  go_wp2_with fail
  go_ret
  exact ⟨rfl, hb⟩

def IxGot (b : Bool) (w : World) (r : Ending) (w' : World) : Prop := (∃ i : Int, r = .returned (.int .i64 i) ∧ decide (0 ≤ i) = b) ∧ Below w.heap.size w w'

set_option maxHeartbeats 4000000 in
set_option maxRecDepth 100000 in
theorem indexN_any {w : World} (l : List (ByteArray × Value)) (hl : l.length ≤ 4000000) (lv : Value) (hr : RowR w lv l.length 2 (nmCells l)) (g : Nat) (s : ByteArray) (hg : w.cell? ⟨g, 0, none⟩ = some (.string s)) :
    Calls Tryz.prog 127 #[lv, .func (.func 100) #[] #[.pointer (some ⟨g, 0, none⟩)]] w (IxGot (l.any fun x => decide (x.1 = s)) w) := by
  obtain ⟨A, cap, rfl, hlen, hA⟩ := hr
  obtain ⟨N, hN⟩ : ∃ n, n = l.length := ⟨_, rfl⟩
  obtain ⟨R, hR⟩ : ∃ r, r = l.any fun x => decide (x.1 = s) := ⟨_, rfl⟩
  rw [← hN] at hA hl ⊢
  rw [← hR]
  have HA := Lib.hid hA
  have HN := Lib.hid hN
  have HR := Lib.hid hR
  have Hg := Lib.hid hg
  clear hA hN hlen hR hg
  go_enter Tryz.func127, Tryz.ntmps127
  go_wp2_with fail
  go_loopw [8] (fun v8 wr => ∃ k : Nat, k ≤ N ∧ v8 = .int .i64 (k : Int) ∧ RowKit.Hid (Below w.heap.size w wr) ∧ RowKit.Hid (((l.take k).any fun x => decide (x.1 = s)) = false)) (fun v8 _ => N - (intOf v8).toNat)
  case atStart => exact ⟨0, Nat.zero_le _, rfl, Lib.hid (Below.refl _ _), Lib.hid rfl⟩
  case round =>
    obtain ⟨k, hk, rfl, hb, hno⟩ := hrel
    by_cases hlt : k < N
    · have hkl : k < l.length := by have := HN.out; omega
      obtain ⟨q, o, rfl, hc⟩ := HA.out (by omega)
      have htk := List.take_succ_eq_append_getElem hkl
      have hx : l[k]? = some l[k] := List.getElem?_eq_getElem hkl
      have hcell := nmCells_at l k _ hx
      have c0 := hc _ _ hcell.1
      have c1 := hc _ _ hcell.2
      generalize l[k] = X at htk c0 c1
      have d0 := (hb.out.cell (World.block_lt_of_cell? w _ c0)).trans c0
      have d1 := (hb.out.cell (World.block_lt_of_cell? w _ c1)).trans c1
      rw [← Nat.add_assoc] at d1
      have hgw := (hb.out.cell (World.block_lt_of_cell? w _ Hg.out)).trans Hg.out
      have HF := Lib.hid (has1_any (w := wr) g s X.1 X.2 hgw)
      obtain ⟨X1, X2⟩ := X
      simp only at d0 d1 HF
      clear c0 c1 hx hcell hgw hc
      by_cases he : X1 = s
      · have hres : R = true := by
          rw [HR.out]
          have : (l.take (k + 1)).any (fun x => decide (x.1 = s)) = true := by rw [htk, List.any_append]; simp [he]
          obtain ⟨y, hy, hys⟩ := List.any_eq_true.1 this
          exact List.any_eq_true.2 ⟨y, List.mem_of_mem_take hy, hys⟩
        have Hres := Lib.hid hres
        rw [decide_eq_true he] at HF
        clear hres htk he
        go_wp2_with (go_at_call 100; (with_reducible refine HF.out.mono ?_); rintro r w2 ⟨rfl, e2⟩)
        go_ret
        exact ⟨⟨_, rfl, by rw [Hres.out]; exact decide_eq_true (by omega)⟩, after hb.out e2⟩
      · have hno2 : ((l.take (k + 1)).any fun x => decide (x.1 = s)) = false := by rw [htk, List.any_append, hno.out]; simp [he]
        have Hno2 := Lib.hid hno2
        rw [decide_eq_false he] at HF
        clear hno2 htk he
        go_wp2_with (go_at_call 100; (with_reducible refine HF.out.mono ?_); rintro r w2 ⟨rfl, e2⟩)
        go_roundw
        case rel => exact ⟨k + 1, by omega, by go_num, Lib.hid (after hb.out e2), Hno2⟩
        case measure => simp [intOf]; omega
    · obtain rfl : k = N := by omega
      have hres : R = false := by
        have := hno.out
        rw [List.take_of_length_le (by have := HN.out; omega)] at this
        rw [HR.out]
        exact this
      have Hres := Lib.hid hres
      clear hres
      go_wp2_with fail
      go_ret
      exact ⟨⟨_, rfl, by rw [Hres.out]; rfl⟩, hb.out⟩

set_option maxHeartbeats 4000000 in
set_option maxRecDepth 100000 in
theorem containsN_any {w : World} (l : List (ByteArray × Value)) (hl : l.length ≤ 4000000) (lv : Value) (hr : RowR w lv l.length 2 (nmCells l)) (g : Nat) (s : ByteArray) (hg : w.cell? ⟨g, 0, none⟩ = some (.string s)) :
    Calls Tryz.prog 99 #[lv, .func (.func 100) #[] #[.pointer (some ⟨g, 0, none⟩)]] w (Got (.bool (l.any fun x => decide (x.1 = s))) w) := by
  have HI := Lib.hid (indexN_any l hl lv hr g s hg)
  generalize (l.any fun x => decide (x.1 = s)) = R at HI ⊢
  clear hg hr
  go_enter Tryz.func99, Tryz.ntmps99
  go_wp2_with (go_at_call 127; (with_reducible refine HI.out.mono ?_); rintro r w2 ⟨⟨i, rfl, hi⟩, e2⟩)
  refine bodyPost_ret (results_tmp rfl _ _ _) rfl ⟨?_, e2⟩
  rw [← hi]
  rfl

set_option maxHeartbeats 4000000 in
set_option maxRecDepth 100000 in
theorem has_any {w : World} (l : List (ByteArray × Value)) (hl : l.length ≤ 4000000) (lv : Value) (hr : RowR w lv l.length 2 (nmCells l)) (s : ByteArray) :
    Calls Tryz.prog 62 #[lv, .string s] w (Got (.bool (l.any fun x => decide (x.1 = s))) w) := by
  have hb0 := boxed w (.cells #[.string s] 9)
  have hg : (w.alloc (.cells #[.string s] 9)).cell? ⟨w.heap.size, 0, none⟩ = some (.string s) := (Blk.new w 9 #[.string s]).cell 0
  have HI := Lib.hid (containsN_any l hl lv (hr.below hb0) w.heap.size s hg)
  generalize (l.any fun x => decide (x.1 = s)) = R at HI ⊢
  have hmf : ∀ (fn : Fn) (first cap : Array Value) (w : World), (Instr.makeFunc fn first cap).run Tryz.prog w = .ok (.func fn first cap) w := fun _ _ _ _ => rfl
  clear hg hr
  go_enter Tryz.func62, Tryz.ntmps62
  go_wp2_with (go_at_call 99; (with_reducible refine HI.out.mono ?_); rintro r w2 ⟨rfl, e2⟩)
  go_ret
  exact ⟨rfl, after hb0 e2⟩
end Go.Proofs.YtbiglifngfgffaaGreatDoor
