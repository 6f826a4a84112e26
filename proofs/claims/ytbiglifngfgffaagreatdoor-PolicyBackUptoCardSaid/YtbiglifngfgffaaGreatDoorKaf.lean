/- Joined out of: PlG Sm TwB PfA PfB PfC PfD WhA IpL. -/
import Derived.Test.YtbiglifngfgffaaGreatDoorKae
import Derived.Test.YtbiglifngfgffaaGreatDoorKaa
import Derived.Maps.RangeRun
import Derived.Test.YtbiglifngfgffaaGreatDoorKad
import Derived.Test.YtbiglifngfgffaaGreatDoorKab
import Derived.Laws.BitsAllLaws
import Derived.BigQuiet
import Derived.Deep.QuietTactic
import Derived.Deep.RegionHeld3
import Derived.BigRegion
import Derived.Deep.DrawnRows
import Derived.Deep.CutBlock
import Derived.Laws.CopyOwn
set_option linter.unusedVariables false
set_option linter.unusedSimpArgs false

/- Is a host told? (Printed by pl_hosts.py.) -/
namespace Go.Proofs.YtbiglifngfgffaaGreatDoor
open Go.RowKit
attribute [local go_sem ↓] Go.wp_at_zero Go.wp_at_succ

/- A row of hosts. -/
def hsCells (l : List Hs) : List Value := l.flatMap fun x => [Value.string x.name, .bool x.net.a.v6, .int .u64 (x.net.a.hi : Int), .int .u64 (x.net.a.lo : Int), .int .u8 (x.net.bits : Int)]
theorem hsCells_at : ∀ (l : List Hs) (k : Nat) (x : Hs), l[k]? = some x → (hsCells l)[k * 5]? = some (.string x.name) ∧ (hsCells l)[k * 5 + 1]? = some (.bool x.net.a.v6) ∧ (hsCells l)[k * 5 + 2]? = some (.int .u64 (x.net.a.hi : Int)) ∧ (hsCells l)[k * 5 + 3]? = some (.int .u64 (x.net.a.lo : Int)) ∧ (hsCells l)[k * 5 + 4]? = some (.int .u8 (x.net.bits : Int)) := by
  intro l
  induction l with
  | nil => intro k x h; cases h
  | cons y r ih =>
    intro k x h
    cases k with
    | zero => injection h with h; subst h; exact ⟨rfl, rfl, rfl, rfl, rfl⟩
    | succ k =>
      rw [show (k + 1) * 5 = k * 5 + 1 + 1 + 1 + 1 + 1 by omega]
      exact ih k x h

set_option maxHeartbeats 2000000 in
set_option maxRecDepth 100000 in
theorem hasH1_any {w : World} (g : Nat) (s x : ByteArray) (v1 : Bool) (v2 v3 v4 : Int) (hg : w.cell? ⟨g, 0, none⟩ = some (.string s)) : Calls Tryz.prog 102 #[.agg #[.string x, .bool v1, .int .u64 v2, .int .u64 v3, .int .u8 v4], .pointer (some ⟨g, 0, none⟩)] w (Got (.bool (decide (x = s))) w) := by
  have hx := Blk.new w 53 #[.string x, .bool v1, .int .u64 v2, .int .u64 v3, .int .u8 v4]
  have hb := boxed w (.cells #[.string x, .bool v1, .int .u64 v2, .int .u64 v3, .int .u8 v4] 53)
  have hg2 := (hb.cell (p := ⟨g, 0, none⟩) (World.block_lt_of_cell? w _ hg)).trans hg
  have x0 := hx.cell 0
  simp at x0
  have hd : (x.toList == s.toList) = decide (x = s) := by
    by_cases e : x = s
    · subst e; simp
    · rw [decide_eq_false e, beq_eq_false_iff_ne]
      intro h
      rw [ByteArray.toList_eq, ByteArray.toList_eq] at h
      exact e (ByteArray.ext (Array.ext' h))
  obtain ⟨D, hD⟩ : ∃ D, D = decide (x = s) := ⟨_, rfl⟩
  rw [← hD] at hd ⊢
  clear hD hx
  go_enter Tryz.func102, Tryz.ntmps102
  go_wp2_with fail
  go_ret
  exact ⟨rfl, hb⟩

set_option maxHeartbeats 4000000 in
set_option maxRecDepth 100000 in
theorem indexH_any {w : World} (l : List Hs) (hl : l.length ≤ 4000000) (lv : Value) (hr : RowR w lv l.length 5 (hsCells l)) (g : Nat) (s : ByteArray) (hg : w.cell? ⟨g, 0, none⟩ = some (.string s)) :
    Calls Tryz.prog 128 #[lv, .func (.func 102) #[] #[.pointer (some ⟨g, 0, none⟩)]] w (IxGot (l.any fun x => decide (x.name = s)) w) := by
  obtain ⟨A, cap, rfl, hlen, hA⟩ := hr
  obtain ⟨N, hN⟩ : ∃ n, n = l.length := ⟨_, rfl⟩
  obtain ⟨R, hR⟩ : ∃ r, r = l.any fun x => decide (x.name = s) := ⟨_, rfl⟩
  rw [← hN] at hA hl ⊢
  rw [← hR]
  have HA := Lib.hid hA
  have HN := Lib.hid hN
  have HR := Lib.hid hR
  have Hg := Lib.hid hg
  clear hA hN hlen hR hg
  go_enter Tryz.func128, Tryz.ntmps128
  go_wp2_with fail
  go_loopw [8] (fun v8 wr => ∃ k : Nat, k ≤ N ∧ v8 = .int .i64 (k : Int) ∧ RowKit.Hid (Below w.heap.size w wr) ∧ RowKit.Hid (((l.take k).any fun x => decide (x.name = s)) = false)) (fun v8 _ => N - (intOf v8).toNat)
  case atStart => exact ⟨0, Nat.zero_le _, rfl, Lib.hid (Below.refl _ _), Lib.hid rfl⟩
  case round =>
    obtain ⟨k, hk, rfl, hb, hno⟩ := hrel
    by_cases hlt : k < N
    · have hkl : k < l.length := by have := HN.out; omega
      obtain ⟨q, o, rfl, hc⟩ := HA.out (by omega)
      have htk := List.take_succ_eq_append_getElem hkl
      have hx : l[k]? = some l[k] := List.getElem?_eq_getElem hkl
      have hcell := hsCells_at l k _ hx
      have c0 := hc _ _ hcell.1
      have c1 := hc _ _ hcell.2.1
      have c2 := hc _ _ hcell.2.2.1
      have c3 := hc _ _ hcell.2.2.2.1
      have c4 := hc _ _ hcell.2.2.2.2
      generalize l[k] = X at htk c0 c1 c2 c3 c4
      have d0 := (hb.out.cell (World.block_lt_of_cell? w _ c0)).trans c0
      have d1 := (hb.out.cell (World.block_lt_of_cell? w _ c1)).trans c1
      have d2 := (hb.out.cell (World.block_lt_of_cell? w _ c2)).trans c2
      have d3 := (hb.out.cell (World.block_lt_of_cell? w _ c3)).trans c3
      have d4 := (hb.out.cell (World.block_lt_of_cell? w _ c4)).trans c4
      rw [← Nat.add_assoc] at d1 d2 d3 d4
      have hgw := (hb.out.cell (World.block_lt_of_cell? w _ Hg.out)).trans Hg.out
      have HF := Lib.hid (hasH1_any (w := wr) g s X.name X.net.a.v6 X.net.a.hi X.net.a.lo X.net.bits hgw)
      obtain ⟨X1, ⟨⟨X2, X3, X4⟩, X5⟩⟩ := X
      simp only at d0 d1 d2 d3 d4 HF
      clear c0 c1 c2 c3 c4 hx hcell hgw hc
      by_cases he : X1 = s
      · have hres : R = true := by
          rw [HR.out]
          have : (l.take (k + 1)).any (fun x => decide (x.name = s)) = true := by rw [htk, List.any_append]; simp [he]
          obtain ⟨y, hy, hys⟩ := List.any_eq_true.1 this
          exact List.any_eq_true.2 ⟨y, List.mem_of_mem_take hy, hys⟩
        have Hres := Lib.hid hres
        rw [decide_eq_true he] at HF
        clear hres htk he
        go_wp2_with (go_at_call 102; (with_reducible refine HF.out.mono ?_); rintro r w2 ⟨rfl, e2⟩)
        go_ret
        exact ⟨⟨_, rfl, by rw [Hres.out]; exact decide_eq_true (by omega)⟩, after hb.out e2⟩
      · have hno2 : ((l.take (k + 1)).any fun x => decide (x.name = s)) = false := by rw [htk, List.any_append, hno.out]; simp [he]
        have Hno2 := Lib.hid hno2
        rw [decide_eq_false he] at HF
        clear hno2 htk he
        go_wp2_with (go_at_call 102; (with_reducible refine HF.out.mono ?_); rintro r w2 ⟨rfl, e2⟩)
        go_roundw
        case rel => exact ⟨k + 1, by omega, by go_num, Lib.hid (after hb.out e2), Hno2⟩
        case measure => simp [intOf]; omega
    · obtain rfl : k = N := by omega
      have hres : R = false := by
        have := hno.out
        rw [List.take_of_length_le (by have := HN.out; omega)] at this
        rw [HR.out]
        exact this
      have Hres := Lib.hid hres
      clear hres
      go_wp2_with fail
      go_ret
      exact ⟨⟨_, rfl, by rw [Hres.out]; rfl⟩, hb.out⟩

set_option maxHeartbeats 4000000 in
set_option maxRecDepth 100000 in
theorem containsH_any {w : World} (l : List Hs) (hl : l.length ≤ 4000000) (lv : Value) (hr : RowR w lv l.length 5 (hsCells l)) (g : Nat) (s : ByteArray) (hg : w.cell? ⟨g, 0, none⟩ = some (.string s)) :
    Calls Tryz.prog 101 #[lv, .func (.func 102) #[] #[.pointer (some ⟨g, 0, none⟩)]] w (Got (.bool (l.any fun x => decide (x.name = s))) w) := by
  have HI := Lib.hid (indexH_any l hl lv hr g s hg)
  generalize (l.any fun x => decide (x.name = s)) = R at HI ⊢
  clear hg hr
  go_enter Tryz.func101, Tryz.ntmps101
  go_wp2_with (go_at_call 128; (with_reducible refine HI.out.mono ?_); rintro r w2 ⟨⟨i, rfl, hi⟩, e2⟩)
  refine bodyPost_ret (results_tmp rfl _ _ _) rfl ⟨?_, e2⟩
  rw [← hi]
  rfl

set_option maxHeartbeats 4000000 in
set_option maxRecDepth 100000 in
theorem hasHost_any {w : World} (l : List Hs) (hl : l.length ≤ 4000000) (lv : Value) (hr : RowR w lv l.length 5 (hsCells l)) (s : ByteArray) :
    Calls Tryz.prog 63 #[lv, .string s] w (Got (.bool (l.any fun x => decide (x.name = s))) w) := by
  have hb0 := boxed w (.cells #[.string s] 9)
  have hg : (w.alloc (.cells #[.string s] 9)).cell? ⟨w.heap.size, 0, none⟩ = some (.string s) := (Blk.new w 9 #[.string s]).cell 0
  have HI := Lib.hid (containsH_any l hl lv (hr.below hb0) w.heap.size s hg)
  generalize (l.any fun x => decide (x.name = s)) = R at HI ⊢
  have hmf : ∀ (fn : Fn) (first cap : Array Value) (w : World), (Instr.makeFunc fn first cap).run Tryz.prog w = .ok (.func fn first cap) w := fun _ _ _ _ => rfl
  clear hg hr
  go_enter Tryz.func63, Tryz.ntmps63
  go_wp2_with (go_at_call 101; (with_reducible refine HI.out.mono ?_); rintro r w2 ⟨rfl, e2⟩)
  go_ret
  exact ⟨rfl, after hb0 e2⟩
end Go.Proofs.YtbiglifngfgffaaGreatDoor

/- A map with string keys in memory, known whole: its operations as equations of the run. -/
namespace Go.Proofs.YtbiglifngfgffaaGreatDoor
open Go.RowKit
open Go.ChangeMaps (setBlock)

/- An entry: its key, its value, its stamp. -/
structure SE where
  tx : ByteArray
  val : Value
  born : Nat

def SE.entry (x : SE) : MapEntry := { key := .string x.tx, val := x.val, born := x.born }
def ents (L : List SE) : Array MapEntry := (L.map SE.entry).toArray
def MBlk (w : World) (m : Nat) (L : List SE) (clock : Nat) : Prop := w.heap[m]? = some (.map (ents L) clock)

theorem bytes_beq (a b : ByteArray) : (a == b) = true ↔ a = b := by
  rw [beq_toListBytes, beq_iff_eq, ByteArray.toList_eq, ByteArray.toList_eq]
  constructor
  · intro h
    obtain ⟨⟨x⟩⟩ := a
    obtain ⟨⟨y⟩⟩ := b
    simpa using h
  · rintro rfl
    rfl
theorem bytes_beq_comm (a b : ByteArray) : (a == b) = (b == a) := by
  rw [Bool.eq_iff_iff, bytes_beq, bytes_beq]
  exact ⟨Eq.symm, Eq.symm⟩

def at_ (L : List SE) (s : ByteArray) : Option Nat := L.findIdx? fun x => x.tx == s

theorem findNow_ents (s : ByteArray) (L : List SE) : ∀ i, Instr.findNow .string (.string s) (L.map SE.entry) i = some ((at_ L s).map fun j => (i + j, (L.getD j ⟨s, undef, 0⟩).val)) := by
  unfold at_
  induction L with
  | nil => intro i; rfl
  | cons x L ih =>
    intro i
    simp only [List.map_cons, Instr.findNow, SE.entry, Instr.sameNow, List.findIdx?_cons]
    rw [bytes_beq_comm s x.tx]
    cases h : x.tx == s with
    | true => simp [List.getD_cons_zero]
    | false =>
      have := ih (i + 1)
      simp only [this]
      cases L.findIdx? (fun x => x.tx == s) with
      | none => simp
      | some j => simp; omega

section
variable {P : Program} {T K E : TypeId} {w : World} {m clock : Nat} {L : List SE}

theorem MBlk.lt (h : MBlk w m L clock) : m < w.heap.size := by
  rcases Nat.lt_or_ge m w.heap.size with h1 | h1
  · exact h1
  · unfold MBlk at h; rw [Array.getElem?_eq_none h1] at h; cases h

theorem run_getObj_map {es : Array MapEntry} {c : Nat} (h : w.heap[m]? = some (.map es c)) : (getObj m).run P w = .ok (.map es c) w := by simp [getObj, Sem.run, h]
theorem run_setObj_map {es : Array MapEntry} {c : Nat} (h : w.heap[m]? = some (.map es c)) (o' : Obj) : (setObj m o').run P w = .ok () (setBlock w m o') := by simp [setObj, Sem.run, h, setBlock]

theorem run_checkKey_gen (n : Nat) (b : Bool) (s : Value) (hK : P.underlying K = some .string) : (Instr.checkKey b (n + 1) K s).run P w = .ok () w := by
  simp [Instr.checkKey, run_underlying hK]
theorem run_checkKey_string (b : Bool) (s : Value) (hK : P.underlying K = some .string) : (Instr.checkKey b 10000 K s).run P w = .ok () w := run_checkKey_gen 9999 b s hK

theorem run_findKey_sm (s : ByteArray) (hK : P.underlying K = some .string) : (Instr.findKey K (.string s) (L.map SE.entry)).run P w = .ok ((at_ L s).map fun j => (j, (L.getD j ⟨s, undef, 0⟩).val)) w := by
  simp [Instr.findKey, run_underlying hK, findNow_ents s L 0]

theorem run_lookup_sm (hT : P.underlying T = some (.map K E)) (hK : P.underlying K = some .string) (h : MBlk w m L clock) (s : ByteArray) {j : Nat} {x : SE} (hj : at_ L s = some j) (hx : L[j]? = some x) :
    (Instr.lookup T (.map (some m)) (.string s) true).run P w = .ok (.tuple #[x.val, .bool true]) w := by
  simp [Instr.lookup, run_underlying hT, run_getObj_map h, run_checkKey_string _ _ hK, ents, run_findKey_sm s hK, hj, hx, List.getD_eq_getElem?_getD]

theorem run_lookup_sm_none (hT : P.underlying T = some (.map K E)) (hK : P.underlying K = some .string) (h : MBlk w m L clock) (s : ByteArray) (hj : at_ L s = none) {z : Value} (hz : (zeroValue E).run P w = .ok z w) :
    (Instr.lookup T (.map (some m)) (.string s) true).run P w = .ok (.tuple #[z, .bool false]) w := by
  simp [Instr.lookup, run_underlying hT, run_getObj_map h, run_checkKey_string _ _ hK, ents, run_findKey_sm s hK, hj, hz]

theorem run_update_sm (hT : P.underlying T = some (.map K E)) (hK : P.underlying K = some .string) (h : MBlk w m L clock) (s : ByteArray) (hj : at_ L s = none) (v : Value) :
    (Instr.mapUpdate T (.map (some m)) (.string s) v).run P w = .ok () (setBlock w m (.map (ents (L ++ [⟨s, v, clock⟩])) (clock + 1))) := by
  simp [Instr.mapUpdate, run_underlying hT, run_getObj_map h, run_checkKey_string _ _ hK, ents, run_findKey_sm s hK, hj, run_setObj_map h, SE.entry]

theorem Keeps.setBlock {S : Nat → Prop} {a : World} {r : Nat} (h : Keeps S a w) (hr : S r ∨ a.heap.size ≤ r) (o : Obj) : Keeps S a (setBlock w r o) :=
  ⟨h.os, h.tape, h.output, by simpa [Go.ChangeMaps.setBlock] using h.size, fun k hk hs => by
    have : r ≠ k := by rintro rfl; rcases hr with h1 | h1; exact hs h1; omega
    rw [← h.block k hk hs]
    simp [Go.ChangeMaps.setBlock, Array.getElem?_setIfInBounds, this]⟩

theorem MBlk.keep {S : Nat → Prop} {w' : World} (h : MBlk w m L clock) (hk : Keeps S w w') (hg : ¬ S m) : MBlk w' m L clock := (hk.block m h.lt hg).trans h
theorem MBlk.below {B : Nat} {w' : World} (h : MBlk w m L clock) (hb : Below B w w') (hg : m < B) : MBlk w' m L clock := (hb.block m hg).trans h
theorem MBlk.drewN (h : MBlk w m L clock) (n : Nat) : MBlk (w.drewN n) m L clock := h
theorem MBlk.set_ (h : MBlk w m L clock) (L' : List SE) (c' : Nat) : MBlk (setBlock w m (.map (ents L') c')) m L' c' := by
  have := h.lt
  unfold MBlk Go.ChangeMaps.setBlock
  simp [this]

/- A store at a key that is not there, and a delete of one that is: as a new world. -/
theorem update_sm (hT : P.underlying T = some (.map K E)) (hK : P.underlying K = some .string) (h : MBlk w m L clock) (s : ByteArray) (hj : at_ L s = none) (v : Value) :
    ∃ W, (Instr.mapUpdate T (.map (some m)) (.string s) v).run P w = .ok () W ∧ (Instr.mapUpdate T (.map (some m)) (.string s) v).run P w.drew = .ok () W.drew ∧ (∀ n, (Instr.mapUpdate T (.map (some m)) (.string s) v).run P (w.drewN n) = .ok () (W.drewN n)) ∧ Keeps (fun g => g = m) w W ∧ MBlk W m (L ++ [⟨s, v, clock⟩]) (clock + 1) :=
  ⟨setBlock w m (.map (ents (L ++ [(⟨s, v, clock⟩ : SE)])) (clock + 1)), run_update_sm hT hK h s hj v, run_update_sm (w := w.drew) hT hK h s hj v, fun n => run_update_sm hT hK (h.drewN n) s hj v, (Keeps.refl (fun g => g = m) w).setBlock (.inl rfl) _, h.set_ _ _⟩

def Iter (w : World) (r m since : Nat) (seen : Array Nat) (last : Nat) : Prop := w.heap[r]? = some (.mapIter (some m) since seen last)

theorem Iter.lt {r since last : Nat} {seen : Array Nat} (h : Iter w r m since seen last) : r < w.heap.size := by
  rcases Nat.lt_or_ge r w.heap.size with h1 | h1
  · exact h1
  · unfold Iter at h; rw [Array.getElem?_eq_none h1] at h; cases h

end
end Go.Proofs.YtbiglifngfgffaaGreatDoor

/- Texts of addresses, the program's: numbers joined: the walk. -/
namespace Go.Proofs.YtbiglifngfgffaaGreatDoor
open Go.RowKit

def hexs (L : List Nat) : List (List UInt8) := L.map hexL
theorem hexs_take {L : List Nat} {k : Nat} (hk : k < L.length) : hexs (L.take (k + 1)) = hexs (L.take k) ++ [hexL (L.getD k 0)] := by
  unfold hexs
  rw [List.take_succ_eq_append_getElem hk, List.map_append, List.getD_eq_getElem?_getD, List.getElem?_eq_getElem hk]
  rfl
theorem strs_snoc (L : List (List UInt8)) (x : List UInt8) : (strs (L ++ [x])).map Value.string = (strs L).map Value.string ++ [.string ⟨x.toArray⟩] := by
  unfold strs
  simp
theorem joinH_len8 {L : List Nat} (h : ∀ x ∈ L, x < 65536) (hl : L.length ≤ 8) : (joinH L).length ≤ 40 := by
  have := joinH_len L h
  omega

set_option maxHeartbeats 1000000 in
theorem tjoin_any {w : World} (env : Env w) (g o c : Nat) (L : List Nat) (hL : ∀ x ∈ L, x < 65536) (hl : L.length ≤ 8) (hg : g < w.heap.size) (hc : ∀ j, j < L.length → w.cell? ⟨g, o + j, none⟩ = some (.int .u16 (L.getD j 0 : Int))) : Calls Tryz.prog 85 #[.slice (some ⟨g, o, none⟩) L.length c] w (Got (.string ⟨(joinH L).toArray⟩) w) := by
  obtain ⟨i0, hi, hz0, hz1, hz2⟩ := info_parts info_str
  have Henv := Lib.hid env
  have Hc := Lib.hid hc
  have HL := Lib.hid hL
  clear env hc hL
  obtain ⟨n, hn⟩ : ∃ n, n = L.length := ⟨_, rfl⟩
  rw [← hn] at hl ⊢
  have Hn := Lib.hid hn
  clear hn
  go_enter Tryz.func85, Tryz.ntmps85
  go_wp2_with fail
  go_loopw [3, 8] (fun v i wr => ∃ k : Nat, k ≤ n ∧ i = .int .i64 (k : Int) ∧ RowKit.Hid (wr.ownsRow w.heap.size 9 1 v k ((strs (hexs (L.take k))).map Value.string)) ∧ RowKit.Hid (Below w.heap.size w wr)) (fun _ i _ => n - (intOf i).toNat)
  case atStart => exact ⟨0, Nat.zero_le _, rfl, Lib.hid (World.ownsRow_nil _ _ _ _), Lib.hid (Below.refl _ _)⟩
  case round =>
    obtain ⟨k, hk, rfl, hown, hb⟩ := hrel
    by_cases hlt : k < n
    · have hkl : k < L.length := by have := Hn.out; omega
      have cx := (hb.out.cell (p := ⟨g, o + k, none⟩) hg).trans (Hc.out k hkl)
      have hx : L.getD k 0 < 65536 := by
        rw [List.getD_eq_getElem?_getD, List.getElem?_eq_getElem hkl]
        exact HL.out _ (List.getElem_mem hkl)
      have hs := hexs_take hkl
      have hq : (strs (hexs (L.take (k + 1)))).map Value.string = (strs (hexs (L.take k))).map Value.string ++ [.string ⟨(hexL (L.getD k 0)).toArray⟩] := by rw [hs, strs_snoc]
      have Hq := Lib.hid hq
      clear hs hq
      generalize L.getD k 0 = X at cx hx Hq
      have HF := Lib.hid (fmt16 (w := wr) X hx (Henv.out.below hb.out).db)
      go_wp2_with (first
        | (go_at_call 86; (with_reducible refine HF.out.mono ?_); rintro r w2 ⟨rfl, g2⟩; have ho2 := Lib.hid (own_below hown.out g2); have hb2 := Lib.hid (after hb.out g2); clear g2)
        | (at_builtin; refine wpList_append_own _ rfl _ _ 44 rfl w.heap.size 9 i0 (.string ByteArray.empty) 1 16 Tryz.underlying44 hi hz0 hz1 hz2 rfl (by decide) _ k _ rfl (ho2.out.alloc _) ⟨w2.heap.size, 0, none⟩ 1 1 [.string ⟨(hexL X).toArray⟩] rfl rfl (cell_one_new _ _ _) (fun x hx => by simp at hx; subst hx; rfl) (by unfold maxLen; omega) (by omega) (by have := hb2.out.size; simp; omega) ?_; intro v' w3 hown' hgrow3 hnil3; have Ho3 := Lib.hid hown'; have hb3 := Lib.hid ((hb2.out.alloc (hb2.out.size) _).grown hgrow3 (by have := hb2.out.size; simp; omega) (fun q hq => (ho2.out.lt q hq).1)); clear hown' hgrow3 hnil3))
      go_roundw
      case rel => exact ⟨k + 1, by omega, by go_num, Lib.hid (by rw [Hq.out]; exact Ho3.out), hb3⟩
      case measure => simp [intOf]; omega
    · obtain rfl : k = n := by omega
      have hown := hown.out
      rw [show L.take k = L by rw [Hn.out, List.take_length]] at hown
      have hlen : (hexs L).length = k := by rw [Hn.out]; simp [hexs]
      rw [← hlen] at hown
      have HJ := Lib.hid (join_own (w := wr) 58 hown (by omega) (by have := joinH_len8 HL.out (by have := Hn.out; omega); exact Nat.le_trans this (by decide)))
      clear hown hlen
      go_wp2_with (go_at_call 20; (with_reducible refine HJ.out.mono ?_); rintro r w2 ⟨rfl, g2⟩; have hb2 := Lib.hid (after hb.out g2); clear g2)
      go_ret
      exact ⟨rfl, hb2.out⟩
end Go.Proofs.YtbiglifngfgffaaGreatDoor

/- Prefixes: masks and bits, the plain law. -/
namespace Go.Proofs.YtbiglifngfgffaaGreatDoor
open Go.RowKit

/- 64 ones, moved up by k. -/
def mk (k : Nat) : Nat := 18446744073709551616 - 2 ^ k
theorem pow_le64 {k : Nat} (h : k ≤ 64) : 2 ^ k ≤ 18446744073709551616 := Nat.le_trans (Nat.pow_le_pow_right (by decide) h) (by decide)
theorem mk_lt (k : Nat) : mk k < 18446744073709551616 := by
  have : 0 < 2 ^ k := Nat.pow_pos (by decide)
  unfold mk
  omega
theorem not_mk {k : Nat} (h : k ≤ 64) : 18446744073709551615 - mk k = 2 ^ k - 1 := by
  have := pow_le64 h
  have : 0 < 2 ^ k := Nat.pow_pos (by decide)
  unfold mk
  omega
theorem andNot_mk {x k : Nat} (hx : x < 18446744073709551616) (h : k ≤ 64) : bits .andNot .u64 (x : Int) ((mk k : Nat) : Int) = ((x % 2 ^ k : Nat) : Int) := by
  rw [u64_andNot_nat x _ hx (mk_lt k), not_mk h, Nat.and_two_pow_sub_one_eq_mod]
/- Which masks the program takes: of the high half, of the low half. -/
def kH (a : Ad) (n : Nat) : Nat := if a.v6 then 64 - n else 0
def kL (a : Ad) (n : Nat) : Nat := if a.v6 then (if n ≤ 64 then 64 else 128 - n) else 32 - n
theorem kH_le (a : Ad) (n : Nat) : kH a n ≤ 64 := by unfold kH; split <;> omega
theorem kL_le {a : Ad} {n : Nat} : kL a n ≤ 64 := by
  unfold kL
  split
  · split <;> omega
  · omega

/- x y as one number of k + 64 bits; cut below. -/
theorem glue_mod (hi lo k : Nat) (hl : lo < 18446744073709551616) : (hi * 2 ^ 64 + lo) % 2 ^ (k + 64) = hi % 2 ^ k * 2 ^ 64 + lo := by
  rw [Nat.pow_add, Nat.mul_comm (2 ^ k), Nat.mod_mul]
  have e1 : (hi * 2 ^ 64 + lo) % 2 ^ 64 = lo := by omega
  have e2 : (hi * 2 ^ 64 + lo) / 2 ^ 64 = hi := by omega
  rw [e1, e2, Nat.mul_comm (2 ^ 64)]
  omega
theorem low_mod (hi lo k : Nat) (hk : k ≤ 64) : (hi * 2 ^ 64 + lo) % 2 ^ k = lo % 2 ^ k := by
  have : hi * 2 ^ 64 = 2 ^ k * (hi * 2 ^ (64 - k)) := by
    rw [Nat.mul_left_comm, ← Nat.pow_add, show k + (64 - k) = 64 by omega]
  rw [this, Nat.mul_add_mod]
theorem val_mod {a : Ad} (ok : a.Ok) {n : Nat} (hn : n ≤ a.size) (h4 : a.v6 = false → a.hi = 0) : a.val % 2 ^ (a.size - n) = 0 ↔ a.hi % 2 ^ kH a n = 0 ∧ a.lo % 2 ^ kL a n = 0 := by
  have hl := ok.lo
  unfold Ad.val Ad.size kH kL at *
  cases h6 : a.v6 with
  | true =>
    rw [h6] at hn
    simp only [if_true] at hn ⊢
    by_cases h : n ≤ 64
    · rw [show 128 - n = (64 - n) + 64 by omega, glue_mod _ _ _ hl, if_pos h, Nat.mod_eq_of_lt (a := a.lo) (by omega)]
      omega
    · rw [low_mod _ _ _ (by omega), if_neg h, show 64 - n = 0 by omega, Nat.pow_zero, Nat.mod_one]
      simp
  | false =>
    rw [h6] at hn
    simp only [Bool.false_eq_true, if_false] at hn ⊢
    rw [h4 h6]
    simp
theorem may_hi {a : Ad} (h : a.may = true) : a.v6 = false → a.hi = 0 := fun h6 => (may4 h h6).1
theorem pmay_eq {p : Pf} (ok : p.a.Ok) : pmay p = (p.a.may && decide (p.bits ≤ p.a.size) && (decide (p.a.hi % 2 ^ kH p.a p.bits = 0) && decide (p.a.lo % 2 ^ kL p.a p.bits = 0))) := by
  unfold pmay
  cases hm : p.a.may with
  | false => rfl
  | true =>
    by_cases hn : p.bits ≤ p.a.size
    · rw [decide_eq_true hn, Bool.true_and, Bool.true_and, Bool.true_and, ← Bool.decide_and]
      exact decide_eq_decide.2 (val_mod ok hn (may_hi hm))
    · rw [decide_eq_false hn]; rfl
end Go.Proofs.YtbiglifngfgffaaGreatDoor

/- Prefixes: masks, size, bit: the walks. -/
namespace Go.Proofs.YtbiglifngfgffaaGreatDoor
open Go.RowKit

theorem shl_mk {k : Nat} (h : k ≤ 64) : IntKind.u64.wrap (18446744073709551615 * 2 ^ k) = ((mk k : Nat) : Int) := by
  have h1 := pow_le64 h
  have h0 : 0 < 2 ^ k := Nat.pow_pos (by decide)
  rw [IntKind.wrap_u64]
  unfold mk
  rw [show (2 : Int) ^ k = ((2 ^ k : Nat) : Int) by simp]
  generalize 2 ^ k = q at h1 h0
  omega
theorem shr_nat (x k : Nat) : (x : Int) / 2 ^ k = ((x / 2 ^ k : Nat) : Int) := by simp
theorem ret_two {i j i' j' : Int} (h : i = i') (h' : j = j') : Ending.returned (.tuple #[.int .u64 i, .int .u64 j]) = .returned (.tuple #[.int .u64 i', .int .u64 j']) := by rw [h, h']
theorem size_any (a : Ad) (w : World) : Calls Tryz.prog 79 #[.agg a.cells] w fun r w' => r = .returned (.int .u8 (a.size : Int)) ∧ Below w.heap.size w w' := by
  obtain ⟨v, h, l⟩ := a
  unfold Ad.cells
  cases v
  all_goals
    go_enter Tryz.func79, Tryz.ntmps79
    go_wp2_with fail
    go_ret
    exact ⟨rfl, boxed _ _⟩
theorem masks_any (a : Ad) (n : Nat) (hn : n ≤ a.size) (w : World) : Calls Tryz.prog 80 #[.agg a.cells, .int .u8 (n : Int)] w fun r w' => r = .returned (.tuple #[.int .u64 (mk (kH a n) : Int), .int .u64 (mk (kL a n) : Int)]) ∧ Below w.heap.size w w' := by
  obtain ⟨v, h, l⟩ := a
  unfold Ad.cells Ad.size kH kL at *
  cases v with
  | false =>
    simp only [Bool.false_eq_true, if_false] at hn ⊢
    have e1 : ((32 : Int) - (n : Int)).toNat = 32 - n := by omega
    go_enter Tryz.func80, Tryz.ntmps80
    go_wp2_with fail
    go_ret2
    exact ⟨ret_two rfl (shl_mk (by omega)), boxed _ _⟩
  | true =>
    simp only [if_true] at hn ⊢
    have e1 : ((64 : Int) - (n : Int)).toNat = 64 - n := by omega
    have e2 : ((128 : Int) - (n : Int)).toNat = 128 - n := by omega
    by_cases hc : n ≤ 64
    · rw [if_pos hc]
      go_enter Tryz.func80, Tryz.ntmps80
      go_wp2_with fail
      go_ret2
      exact ⟨ret_two (shl_mk (by omega)) rfl, boxed _ _⟩
    · rw [if_neg hc]
      have e3 : mk (64 - n) = 18446744073709551615 := by rw [show 64 - n = 0 by omega]; rfl
      rw [e3]
      go_enter Tryz.func80, Tryz.ntmps80
      go_wp2_with fail
      go_ret2
      exact ⟨ret_two rfl (shl_mk (by omega)), boxed _ _⟩
end Go.Proofs.YtbiglifngfgffaaGreatDoor

/- MayPrefix: the walks. (Printed by pf_may.py.) -/
namespace Go.Proofs.YtbiglifngfgffaaGreatDoor
open Go.RowKit
attribute [local go_sem ↓] Go.wp_at_zero Go.wp_at_succ

set_option maxHeartbeats 2000000 in
set_option maxRecDepth 100000 in
theorem mayPrefix_any (p : Pf) (ok : p.Ok) (w : World) : Calls Tryz.prog 44 #[.agg p.cells] w (Got (.bool (pmay p)) w) := by
  have HE := Lib.hid (pmay_eq (p := p) ok.a)
  have Hm := Lib.hid (mayAddr_any p.a ok.a)
  have Hs := Lib.hid (size_any p.a)
  have hn := ok.bits
  have hh := ok.a.hi
  have hl := ok.a.lo
  have HX : p.bits ≤ p.a.size → ∀ w, Calls Tryz.prog 80 #[.agg p.a.cells, .int .u8 (p.bits : Int)] w fun r w' => r = .returned (.tuple #[.int .u64 (mk (kH p.a p.bits) : Int), .int .u64 (mk (kL p.a p.bits) : Int)]) ∧ Below w.heap.size w w' := fun h w => masks_any p.a p.bits h w
  have eH := andNot_mk hh (kH_le p.a p.bits)
  have eL := andNot_mk hl (kL_le (a := p.a) (n := p.bits))
  generalize mk (kH p.a p.bits) = MH at HX eH
  generalize mk (kL p.a p.bits) = ML at HX eL
  generalize p.a.hi % 2 ^ kH p.a p.bits = XH at HE eH
  generalize p.a.lo % 2 ^ kL p.a p.bits = XL at HE eL
  generalize hR : pmay p = RR at HE ⊢
  clear hR
  generalize hM : p.a.may = M at Hm HE HX
  generalize hS : p.a.size = SZ at Hs HE HX
  have hS2 : SZ ≤ 128 := by rw [← hS]; exact size_le _
  clear hM hS
  obtain ⟨⟨v, h, l⟩, n⟩ := p
  unfold Pf.cells
  unfold Ad.cells at *
  simp only at hn hh hl HE Hm Hs HX eH eL ⊢
  have hB0 := Blk.new w 51 #[.bool v, .int .u64 (h : Int), .int .u64 (l : Int), .int .u8 (n : Int)]
  have hb0 := (boxed w (.cells #[.bool v, .int .u64 (h : Int), .int .u64 (l : Int), .int .u8 (n : Int)] 51)).drew
  have EH := Lib.hid eH
  have EL := Lib.hid eL
  clear eH eL
  cases M with
  | false =>
    have e : RR = false := by rw [HE.out]; rfl
    rw [e]
    go_enter Tryz.func44, Tryz.ntmps44
    go_wp2_with fail
    generalize w.alloc (.cells #[.bool v, .int .u64 (h : Int), .int .u64 (l : Int), .int .u8 (n : Int)] 51) = v0 at hB0 hb0 ⊢
    generalize hg : w.heap.size = g at hB0 ⊢
    have hB0 := hB0.drew
    refine wp_region_held_drew (S := (fun w' => w'.cell? ⟨g, 0, none⟩ = some (.bool v) ∧ w'.cell? ⟨g, 1, none⟩ = some (.int .u64 (h : Int)) ∧ w'.cell? ⟨g, 2, none⟩ = some (.int .u64 (l : Int)) ∧ w'.cell? ⟨g, 3, none⟩ = some (.int .u8 (n : Int)))) (by kernel_rfl) ⟨hB0.cell 0, hB0.cell 1, hB0.cell 2, hB0.cell 3⟩ (fun hHeld => ?_)
    refine' wpAnyH_take (i := 0) (v := _) rfl (by kernel_rfl) (by kernel_rfl) (by kernel_rfl) (fun _ _ _ h => h) (Or.inl ⟨by rfl, ?ly1⟩) (by assumption) ?lrest1
    case ly1 =>
      intro w hSw
      try dsimp only at hSw
      go_simp
      try with_reducible rfl
    try simp only [Act.put, List.setIfInBounds_toArray, List.set_cons_zero, List.set_cons_succ, List.getElem_toArray, List.getElem_cons_zero, List.getElem_cons_succ]
    refine' wpAnyH_take (i := 1) (v := _) rfl (by kernel_rfl) (by kernel_rfl) (by kernel_rfl) (fun _ _ _ h => h) (Or.inl ⟨by rfl, ?ly2⟩) (by assumption) ?lrest2
    case ly2 =>
      intro w hSw
      try dsimp only at hSw
      go_simp
      try with_reducible rfl
    try simp only [Act.put, List.setIfInBounds_toArray, List.set_cons_zero, List.set_cons_succ, List.getElem_toArray, List.getElem_cons_zero, List.getElem_cons_succ]
    refine wpAnyH_ready (rs := [2]) (by kernel_rfl) (by simp) ?_
    refine AllReadyH.cons rfl (fun K hK => ?_) AllReadyH.nil
    go_simp
    refine (Hm.out _).mono ?_
    rintro r v1 ⟨rfl, d1⟩
    have hb1 := after hb0 d1
    have hB1 := hB0.below d1 hB0.lt
    refine hK.out _ _ ⟨hB1.cell 0, hB1.cell 1, hB1.cell 2, hB1.cell 3⟩ (fun hHeld => ?_)
    clear hK K
    try simp only [Act.put, List.setIfInBounds_toArray, List.set_cons_zero, List.set_cons_succ, List.getElem_toArray, List.getElem_cons_zero, List.getElem_cons_succ]
    refine' wpAnyH_take (i := 3) (v := _) rfl (by kernel_rfl) (by kernel_rfl) (by kernel_rfl) (fun _ _ _ h => h) (Or.inl ⟨by rfl, ?ly4⟩) (by assumption) ?lrest4
    case ly4 =>
      intro w hSw
      try dsimp only at hSw
      go_simp
      try with_reducible rfl
    try simp only [Act.put, List.setIfInBounds_toArray, List.set_cons_zero, List.set_cons_succ, List.getElem_toArray, List.getElem_cons_zero, List.getElem_cons_succ]
    refine' wpAnyH_take (i := 4) (v := _) rfl (by kernel_rfl) (by kernel_rfl) (by kernel_rfl) (fun _ _ _ h => h) (Or.inl ⟨by rfl, ?ly5⟩) (by assumption) ?lrest5
    case ly5 =>
      intro w hSw
      try dsimp only at hSw
      go_simp
      try with_reducible rfl
    try simp only [Act.put, List.setIfInBounds_toArray, List.set_cons_zero, List.set_cons_succ, List.getElem_toArray, List.getElem_cons_zero, List.getElem_cons_succ]
    refine' wpAnyH_take (i := 5) (v := undef) rfl (by kernel_rfl) (by kernel_rfl) (by kernel_rfl) (fun _ _ _ h => h) (Or.inr ⟨by rfl, rfl⟩) (by assumption) ?lrest6
    try simp only [Act.put, List.setIfInBounds_toArray, List.set_cons_zero, List.set_cons_succ, List.getElem_toArray, List.getElem_cons_zero, List.getElem_cons_succ]
    refine' wpAnyH_take (i := 6) (v := undef) rfl (by kernel_rfl) (by kernel_rfl) (by kernel_rfl) (fun _ _ _ h => h) (Or.inr ⟨by rfl, rfl⟩) (by assumption) ?lrest7
    try simp only [Act.put, List.setIfInBounds_toArray, List.set_cons_zero, List.set_cons_succ, List.getElem_toArray, List.getElem_cons_zero, List.getElem_cons_succ]
    refine' wpAnyH_take (i := 7) (v := undef) rfl (by kernel_rfl) (by kernel_rfl) (by kernel_rfl) (fun _ _ _ h => h) (Or.inr ⟨by rfl, rfl⟩) (by assumption) ?lrest8
    try simp only [Act.put, List.setIfInBounds_toArray, List.set_cons_zero, List.set_cons_succ, List.getElem_toArray, List.getElem_cons_zero, List.getElem_cons_succ]
    refine' wpAnyH_take (i := 8) (v := undef) rfl (by kernel_rfl) (by kernel_rfl) (by kernel_rfl) (fun _ _ _ h => h) (Or.inr ⟨by rfl, rfl⟩) (by assumption) ?lrest9
    try simp only [Act.put, List.setIfInBounds_toArray, List.set_cons_zero, List.set_cons_succ, List.getElem_toArray, List.getElem_cons_zero, List.getElem_cons_succ]
    refine' wpAnyH_take (i := 9) (v := undef) rfl (by kernel_rfl) (by kernel_rfl) (by kernel_rfl) (fun _ _ _ h => h) (Or.inr ⟨by rfl, rfl⟩) (by assumption) ?lrest10
    try simp only [Act.put, List.setIfInBounds_toArray, List.set_cons_zero, List.set_cons_succ, List.getElem_toArray, List.getElem_cons_zero, List.getElem_cons_succ]
    refine' wpAnyH_take (i := 10) (v := undef) rfl (by kernel_rfl) (by kernel_rfl) (by kernel_rfl) (fun _ _ _ h => h) (Or.inr ⟨by rfl, rfl⟩) (by assumption) ?lrest11
    try simp only [Act.put, List.setIfInBounds_toArray, List.set_cons_zero, List.set_cons_succ, List.getElem_toArray, List.getElem_cons_zero, List.getElem_cons_succ]
    refine' wpAnyH_take (i := 11) (v := _) rfl (by kernel_rfl) (by kernel_rfl) (by kernel_rfl) (fun _ _ _ h => h) (Or.inl ⟨by rfl, ?ly12⟩) (by assumption) ?lrest12
    case ly12 =>
      intro w hSw
      try dsimp only at hSw
      go_simp
      try with_reducible rfl
    try simp only [Act.put, List.setIfInBounds_toArray, List.set_cons_zero, List.set_cons_succ, List.getElem_toArray, List.getElem_cons_zero, List.getElem_cons_succ]
    refine wpAnyH_done (by kernel_rfl) ?_ _
    go_wp2_with fail
    go_ret
    exact ⟨rfl, hb1⟩
  | true =>
    by_cases hle : n ≤ SZ
    · have HX2 := Lib.hid (HX hle)
      clear HX
      have hle' : ¬ (SZ : Int) < (n : Int) := by omega
      have hle2 : decide ((SZ : Int) < (n : Int)) = false := decide_eq_false hle'
      have hle3 : decide (SZ < n) = false := decide_eq_false (by omega)
      have e : RR = (decide (XH = 0) && decide (XL = 0)) := by rw [HE.out, decide_eq_true hle]; rfl
      have He := Lib.hid e
      clear e
      go_enter Tryz.func44, Tryz.ntmps44
      go_wp2_with fail
      generalize w.alloc (.cells #[.bool v, .int .u64 (h : Int), .int .u64 (l : Int), .int .u8 (n : Int)] 51) = v0 at hB0 hb0 ⊢
      generalize hg : w.heap.size = g at hB0 ⊢
      have hB0 := hB0.drew
      refine wp_region_held_drew (S := (fun w' => w'.cell? ⟨g, 0, none⟩ = some (.bool v) ∧ w'.cell? ⟨g, 1, none⟩ = some (.int .u64 (h : Int)) ∧ w'.cell? ⟨g, 2, none⟩ = some (.int .u64 (l : Int)) ∧ w'.cell? ⟨g, 3, none⟩ = some (.int .u8 (n : Int)))) (by kernel_rfl) ⟨hB0.cell 0, hB0.cell 1, hB0.cell 2, hB0.cell 3⟩ (fun hHeld => ?_)
      refine' wpAnyH_take (i := 0) (v := _) rfl (by kernel_rfl) (by kernel_rfl) (by kernel_rfl) (fun _ _ _ h => h) (Or.inl ⟨by rfl, ?ly13⟩) (by assumption) ?lrest13
      case ly13 =>
        intro w hSw
        try dsimp only at hSw
        go_simp
        try with_reducible rfl
      try simp only [Act.put, List.setIfInBounds_toArray, List.set_cons_zero, List.set_cons_succ, List.getElem_toArray, List.getElem_cons_zero, List.getElem_cons_succ]
      refine' wpAnyH_take (i := 1) (v := _) rfl (by kernel_rfl) (by kernel_rfl) (by kernel_rfl) (fun _ _ _ h => h) (Or.inl ⟨by rfl, ?ly14⟩) (by assumption) ?lrest14
      case ly14 =>
        intro w hSw
        try dsimp only at hSw
        go_simp
        try with_reducible rfl
      try simp only [Act.put, List.setIfInBounds_toArray, List.set_cons_zero, List.set_cons_succ, List.getElem_toArray, List.getElem_cons_zero, List.getElem_cons_succ]
      refine wpAnyH_ready (rs := [2]) (by kernel_rfl) (by simp) ?_
      refine AllReadyH.cons rfl (fun K hK => ?_) AllReadyH.nil
      go_simp
      refine (Hm.out _).mono ?_
      rintro r v1 ⟨rfl, d1⟩
      have hb1 := after hb0 d1
      have hB1 := hB0.below d1 hB0.lt
      refine hK.out _ _ ⟨hB1.cell 0, hB1.cell 1, hB1.cell 2, hB1.cell 3⟩ (fun hHeld => ?_)
      clear hK K
      try simp only [Act.put, List.setIfInBounds_toArray, List.set_cons_zero, List.set_cons_succ, List.getElem_toArray, List.getElem_cons_zero, List.getElem_cons_succ]
      refine' wpAnyH_take (i := 3) (v := _) rfl (by kernel_rfl) (by kernel_rfl) (by kernel_rfl) (fun _ _ _ h => h) (Or.inl ⟨by rfl, ?ly16⟩) (by assumption) ?lrest16
      case ly16 =>
        intro w hSw
        try dsimp only at hSw
        go_simp
        try with_reducible rfl
      try simp only [Act.put, List.setIfInBounds_toArray, List.set_cons_zero, List.set_cons_succ, List.getElem_toArray, List.getElem_cons_zero, List.getElem_cons_succ]
      refine' wpAnyH_take (i := 4) (v := _) rfl (by kernel_rfl) (by kernel_rfl) (by kernel_rfl) (fun _ _ _ h => h) (Or.inl ⟨by rfl, ?ly17⟩) (by assumption) ?lrest17
      case ly17 =>
        intro w hSw
        try dsimp only at hSw
        go_simp
        try with_reducible rfl
      try simp only [Act.put, List.setIfInBounds_toArray, List.set_cons_zero, List.set_cons_succ, List.getElem_toArray, List.getElem_cons_zero, List.getElem_cons_succ]
      refine' wpAnyH_take (i := 5) (v := _) rfl (by kernel_rfl) (by kernel_rfl) (by kernel_rfl) (fun _ _ _ h => h) (Or.inl ⟨by rfl, ?ly18⟩) (by assumption) ?lrest18
      case ly18 =>
        intro w hSw
        try dsimp only at hSw
        go_simp
        try with_reducible rfl
      try simp only [Act.put, List.setIfInBounds_toArray, List.set_cons_zero, List.set_cons_succ, List.getElem_toArray, List.getElem_cons_zero, List.getElem_cons_succ]
      refine' wpAnyH_take (i := 6) (v := _) rfl (by kernel_rfl) (by kernel_rfl) (by kernel_rfl) (fun _ _ _ h => h) (Or.inl ⟨by rfl, ?ly19⟩) (by assumption) ?lrest19
      case ly19 =>
        intro w hSw
        try dsimp only at hSw
        go_simp
        try with_reducible rfl
      try simp only [Act.put, List.setIfInBounds_toArray, List.set_cons_zero, List.set_cons_succ, List.getElem_toArray, List.getElem_cons_zero, List.getElem_cons_succ]
      refine' wpAnyH_take (i := 7) (v := _) rfl (by kernel_rfl) (by kernel_rfl) (by kernel_rfl) (fun _ _ _ h => h) (Or.inl ⟨by rfl, ?ly20⟩) (by assumption) ?lrest20
      case ly20 =>
        intro w hSw
        try dsimp only at hSw
        go_simp
        try with_reducible rfl
      try simp only [Act.put, List.setIfInBounds_toArray, List.set_cons_zero, List.set_cons_succ, List.getElem_toArray, List.getElem_cons_zero, List.getElem_cons_succ]
      refine' wpAnyH_take (i := 8) (v := _) rfl (by kernel_rfl) (by kernel_rfl) (by kernel_rfl) (fun _ _ _ h => h) (Or.inl ⟨by rfl, ?ly21⟩) (by assumption) ?lrest21
      case ly21 =>
        intro w hSw
        try dsimp only at hSw
        go_simp
        try with_reducible rfl
      try simp only [Act.put, List.setIfInBounds_toArray, List.set_cons_zero, List.set_cons_succ, List.getElem_toArray, List.getElem_cons_zero, List.getElem_cons_succ]
      refine wpAnyH_ready (rs := [9]) (by kernel_rfl) (by simp) ?_
      refine AllReadyH.cons rfl (fun K hK => ?_) AllReadyH.nil
      go_simp
      refine (Hs.out _).mono ?_
      rintro r v2 ⟨rfl, d2⟩
      have hb2 := after hb1 d2
      have hB2 := hB1.below d2 hB1.lt
      refine hK.out _ _ ⟨hB2.cell 0, hB2.cell 1, hB2.cell 2, hB2.cell 3⟩ (fun hHeld => ?_)
      clear hK K
      try simp only [Act.put, List.setIfInBounds_toArray, List.set_cons_zero, List.set_cons_succ, List.getElem_toArray, List.getElem_cons_zero, List.getElem_cons_succ]
      refine' wpAnyH_take (i := 10) (v := _) rfl (by kernel_rfl) (by kernel_rfl) (by kernel_rfl) (fun _ _ _ h => h) (Or.inl ⟨by rfl, ?ly23⟩) (by assumption) ?lrest23
      case ly23 =>
        intro w hSw
        try dsimp only at hSw
        go_simp
        try with_reducible rfl
      try simp only [Act.put, List.setIfInBounds_toArray, List.set_cons_zero, List.set_cons_succ, List.getElem_toArray, List.getElem_cons_zero, List.getElem_cons_succ]
      refine' wpAnyH_take (i := 11) (v := _) rfl (by kernel_rfl) (by kernel_rfl) (by kernel_rfl) (fun _ _ _ h => h) (Or.inl ⟨by rfl, ?ly24⟩) (by assumption) ?lrest24
      case ly24 =>
        intro w hSw
        try dsimp only at hSw
        go_simp
        try with_reducible rfl
      try simp only [Act.put, List.setIfInBounds_toArray, List.set_cons_zero, List.set_cons_succ, List.getElem_toArray, List.getElem_cons_zero, List.getElem_cons_succ]
      refine wpAnyH_done (by kernel_rfl) ?_ _
      have c0 := hB2.cell 0
      have c1 := hB2.cell 1
      have c2 := hB2.cell 2
      have c3 := hB2.cell 3
      simp at c0 c1 c2 c3
      have HB2 := Lib.hid hB2
      have Hb2 := Lib.hid hb2
      have eH := EH.out
      have eL := EL.out
      have hg2 : g < v2.heap.size := hB2.lt
      clear hB0 hb0 hB1 hb1 hB2 hb2
      by_cases h1 : XH = 0
      all_goals by_cases h2 : XL = 0
      all_goals
        have q1 : ((XH : Int) == 0) = decide (XH = 0) := by rw [Bool.eq_iff_iff, beq_iff_eq, decide_eq_true_iff]; omega
        have q2 : ((XL : Int) == 0) = decide (XL = 0) := by rw [Bool.eq_iff_iff, beq_iff_eq, decide_eq_true_iff]; omega
        first | rw [decide_eq_true h1] at q1 He | rw [decide_eq_false h1] at q1 He
        first | rw [decide_eq_true h2] at q2 He | rw [decide_eq_false h2] at q2 He
        clear h1 h2
        go_wp2_with (go_at_call 80; (with_reducible refine (HX2.out _).mono ?_); rintro r v3 ⟨rfl, d3⟩; have hc3 := (bcell d3).1)
        go_ret
        exact ⟨show Ending.returned (.bool _) = _ by rw [He.out]; rfl, after Hb2.out d3⟩
    · have hle' : (SZ : Int) < (n : Int) := by omega
      have hle2 : decide ((SZ : Int) < (n : Int)) = true := decide_eq_true hle'
      have hle3 : decide (SZ < n) = true := decide_eq_true (by omega)
      have e : RR = false := by rw [HE.out, decide_eq_false hle]; rfl
      rw [e]
      clear HX e
      go_enter Tryz.func44, Tryz.ntmps44
      go_wp2_with fail
      generalize w.alloc (.cells #[.bool v, .int .u64 (h : Int), .int .u64 (l : Int), .int .u8 (n : Int)] 51) = v0 at hB0 hb0 ⊢
      generalize hg : w.heap.size = g at hB0 ⊢
      have hB0 := hB0.drew
      refine wp_region_held_drew (S := (fun w' => w'.cell? ⟨g, 0, none⟩ = some (.bool v) ∧ w'.cell? ⟨g, 1, none⟩ = some (.int .u64 (h : Int)) ∧ w'.cell? ⟨g, 2, none⟩ = some (.int .u64 (l : Int)) ∧ w'.cell? ⟨g, 3, none⟩ = some (.int .u8 (n : Int)))) (by kernel_rfl) ⟨hB0.cell 0, hB0.cell 1, hB0.cell 2, hB0.cell 3⟩ (fun hHeld => ?_)
      refine' wpAnyH_take (i := 0) (v := _) rfl (by kernel_rfl) (by kernel_rfl) (by kernel_rfl) (fun _ _ _ h => h) (Or.inl ⟨by rfl, ?ly25⟩) (by assumption) ?lrest25
      case ly25 =>
        intro w hSw
        try dsimp only at hSw
        go_simp
        try with_reducible rfl
      try simp only [Act.put, List.setIfInBounds_toArray, List.set_cons_zero, List.set_cons_succ, List.getElem_toArray, List.getElem_cons_zero, List.getElem_cons_succ]
      refine' wpAnyH_take (i := 1) (v := _) rfl (by kernel_rfl) (by kernel_rfl) (by kernel_rfl) (fun _ _ _ h => h) (Or.inl ⟨by rfl, ?ly26⟩) (by assumption) ?lrest26
      case ly26 =>
        intro w hSw
        try dsimp only at hSw
        go_simp
        try with_reducible rfl
      try simp only [Act.put, List.setIfInBounds_toArray, List.set_cons_zero, List.set_cons_succ, List.getElem_toArray, List.getElem_cons_zero, List.getElem_cons_succ]
      refine wpAnyH_ready (rs := [2]) (by kernel_rfl) (by simp) ?_
      refine AllReadyH.cons rfl (fun K hK => ?_) AllReadyH.nil
      go_simp
      refine (Hm.out _).mono ?_
      rintro r v1 ⟨rfl, d1⟩
      have hb1 := after hb0 d1
      have hB1 := hB0.below d1 hB0.lt
      refine hK.out _ _ ⟨hB1.cell 0, hB1.cell 1, hB1.cell 2, hB1.cell 3⟩ (fun hHeld => ?_)
      clear hK K
      try simp only [Act.put, List.setIfInBounds_toArray, List.set_cons_zero, List.set_cons_succ, List.getElem_toArray, List.getElem_cons_zero, List.getElem_cons_succ]
      refine' wpAnyH_take (i := 3) (v := _) rfl (by kernel_rfl) (by kernel_rfl) (by kernel_rfl) (fun _ _ _ h => h) (Or.inl ⟨by rfl, ?ly28⟩) (by assumption) ?lrest28
      case ly28 =>
        intro w hSw
        try dsimp only at hSw
        go_simp
        try with_reducible rfl
      try simp only [Act.put, List.setIfInBounds_toArray, List.set_cons_zero, List.set_cons_succ, List.getElem_toArray, List.getElem_cons_zero, List.getElem_cons_succ]
      refine' wpAnyH_take (i := 4) (v := _) rfl (by kernel_rfl) (by kernel_rfl) (by kernel_rfl) (fun _ _ _ h => h) (Or.inl ⟨by rfl, ?ly29⟩) (by assumption) ?lrest29
      case ly29 =>
        intro w hSw
        try dsimp only at hSw
        go_simp
        try with_reducible rfl
      try simp only [Act.put, List.setIfInBounds_toArray, List.set_cons_zero, List.set_cons_succ, List.getElem_toArray, List.getElem_cons_zero, List.getElem_cons_succ]
      refine' wpAnyH_take (i := 5) (v := _) rfl (by kernel_rfl) (by kernel_rfl) (by kernel_rfl) (fun _ _ _ h => h) (Or.inl ⟨by rfl, ?ly30⟩) (by assumption) ?lrest30
      case ly30 =>
        intro w hSw
        try dsimp only at hSw
        go_simp
        try with_reducible rfl
      try simp only [Act.put, List.setIfInBounds_toArray, List.set_cons_zero, List.set_cons_succ, List.getElem_toArray, List.getElem_cons_zero, List.getElem_cons_succ]
      refine' wpAnyH_take (i := 6) (v := _) rfl (by kernel_rfl) (by kernel_rfl) (by kernel_rfl) (fun _ _ _ h => h) (Or.inl ⟨by rfl, ?ly31⟩) (by assumption) ?lrest31
      case ly31 =>
        intro w hSw
        try dsimp only at hSw
        go_simp
        try with_reducible rfl
      try simp only [Act.put, List.setIfInBounds_toArray, List.set_cons_zero, List.set_cons_succ, List.getElem_toArray, List.getElem_cons_zero, List.getElem_cons_succ]
      refine' wpAnyH_take (i := 7) (v := _) rfl (by kernel_rfl) (by kernel_rfl) (by kernel_rfl) (fun _ _ _ h => h) (Or.inl ⟨by rfl, ?ly32⟩) (by assumption) ?lrest32
      case ly32 =>
        intro w hSw
        try dsimp only at hSw
        go_simp
        try with_reducible rfl
      try simp only [Act.put, List.setIfInBounds_toArray, List.set_cons_zero, List.set_cons_succ, List.getElem_toArray, List.getElem_cons_zero, List.getElem_cons_succ]
      refine' wpAnyH_take (i := 8) (v := _) rfl (by kernel_rfl) (by kernel_rfl) (by kernel_rfl) (fun _ _ _ h => h) (Or.inl ⟨by rfl, ?ly33⟩) (by assumption) ?lrest33
      case ly33 =>
        intro w hSw
        try dsimp only at hSw
        go_simp
        try with_reducible rfl
      try simp only [Act.put, List.setIfInBounds_toArray, List.set_cons_zero, List.set_cons_succ, List.getElem_toArray, List.getElem_cons_zero, List.getElem_cons_succ]
      refine wpAnyH_ready (rs := [9]) (by kernel_rfl) (by simp) ?_
      refine AllReadyH.cons rfl (fun K hK => ?_) AllReadyH.nil
      go_simp
      refine (Hs.out _).mono ?_
      rintro r v2 ⟨rfl, d2⟩
      have hb2 := after hb1 d2
      have hB2 := hB1.below d2 hB1.lt
      refine hK.out _ _ ⟨hB2.cell 0, hB2.cell 1, hB2.cell 2, hB2.cell 3⟩ (fun hHeld => ?_)
      clear hK K
      try simp only [Act.put, List.setIfInBounds_toArray, List.set_cons_zero, List.set_cons_succ, List.getElem_toArray, List.getElem_cons_zero, List.getElem_cons_succ]
      refine' wpAnyH_take (i := 10) (v := _) rfl (by kernel_rfl) (by kernel_rfl) (by kernel_rfl) (fun _ _ _ h => h) (Or.inl ⟨by rfl, ?ly35⟩) (by assumption) ?lrest35
      case ly35 =>
        intro w hSw
        try dsimp only at hSw
        go_simp
        try with_reducible rfl
      try simp only [Act.put, List.setIfInBounds_toArray, List.set_cons_zero, List.set_cons_succ, List.getElem_toArray, List.getElem_cons_zero, List.getElem_cons_succ]
      refine' wpAnyH_take (i := 11) (v := _) rfl (by kernel_rfl) (by kernel_rfl) (by kernel_rfl) (fun _ _ _ h => h) (Or.inl ⟨by rfl, ?ly36⟩) (by assumption) ?lrest36
      case ly36 =>
        intro w hSw
        try dsimp only at hSw
        go_simp
        try with_reducible rfl
      try simp only [Act.put, List.setIfInBounds_toArray, List.set_cons_zero, List.set_cons_succ, List.getElem_toArray, List.getElem_cons_zero, List.getElem_cons_succ]
      refine wpAnyH_done (by kernel_rfl) ?_ _
      go_wp2_with fail
      go_ret
      exact ⟨rfl, hb2⟩
end Go.Proofs.YtbiglifngfgffaaGreatDoor

/- Holds, Less: the program's walks. -/
namespace Go.Proofs.YtbiglifngfgffaaGreatDoor
open Go.RowKit
attribute [local go_sem ↓] Go.wp_at_zero Go.wp_at_succ

theorem two_boxed (w : World) (o o' : Obj) : Below w.heap.size w ((w.alloc o).alloc o') := after (boxed _ _) (boxed _ _)
end Go.Proofs.YtbiglifngfgffaaGreatDoor

/- append of noughts ('append(x, make([]T, k)...)'), of nothing; slices.Clone: the laws, the walk. -/
namespace Go.Proofs.YtbiglifngfgffaaGreatDoor
open Go.RowKit

theorem zeroCells_one (z : Value) (hz : z.cells = #[z]) (k : Nat) : Builtin.zeroCells z.cells k = (List.replicate k z).toArray := by
  unfold Builtin.zeroCells
  rw [hz]
  apply Array.ext
  · simp
  · intro i h1 h2
    simp
    have : i % 1 = 0 := Nat.mod_one i
    simp [this]

section
variable {P : Program} (w : World)
theorem run_append_make (base : Nat) (t tx ty e : TypeId) (i : TypeInfo) (z : Value) (ht : P.underlying t = some (.slice e)) (hx : P.underlying tx = some (.int .i64)) (hi : P.info? e = some i) (hz : i.zero = some z)
    (hsize : i.size = 1) (hby : i.bytes = 8) (hzc : z.cells = #[z]) (hz1 : z.oneCell' = true)
    (v : Value) (n : Nat) (xs : List Value) (hown : w.ownsRow base e 1 v n xs) (k : Nat) (hk : k ≤ 1000) (hn : n ≤ 1000) (hbase : base ≤ w.heap.size) :
    ∃ v' w', (Builtin.append_ #[t, tx] ty #[v, .int .i64 (k : Int)]).run P w = .ok v' w' ∧ w'.ownsRow base e 1 v' (n + k) (xs ++ List.replicate k z) ∧ w.grownBy w' v.ownBlock := by
  have hwr : IntKind.i64.wrap (k : Int) = (k : Int) := by rw [IntKind.wrap_i64]; omega
  have hw0 : IntKind.i64.wrap 0 = 0 := by rw [IntKind.wrap_i64]; decide
  have hneg : ¬ ((k : Int) < 0) := by omega
  have hbig : ¬ (281474976710656 < (k : Int) * 8) := by omega
  have hlen : (xs ++ List.replicate k z).length = (n + k) * 1 := by rw [List.length_append, hown.1, List.length_replicate]; omega
  have grown : ∀ (old : Nat), old < n + k → ∀ (row : Option Nat),
      (w.drew.alloc (.cells (xs.toArray ++ (List.replicate k z).toArray ++ Builtin.zeroCells z.cells (grownCap w (n + k) old e - (n + k))) e)).ownsRow base e 1
        (.slice (some ⟨w.heap.size, 0, none⟩) (n + k) (grownCap w (n + k) old e)) (n + k) (xs ++ List.replicate k z) ∧
      w.grownBy (w.drew.alloc (.cells (xs.toArray ++ (List.replicate k z).toArray ++ Builtin.zeroCells z.cells (grownCap w (n + k) old e - (n + k))) e)) row := by
    intro old ho row
    have hge := grownCap_ge w (n + k) old e
    have hcm : grownCap w (n + k) old e ≤ maxLen := grownCap_le_maxLen w (n + k) old e (by simp only [maxLen]; omega)
    refine ⟨⟨hlen, .inr ⟨w.heap.size, _, _, rfl, hbase, heap_alloc_new w.drew _, hge, hcm, ?_, ?_⟩⟩, ⟨rfl, rfl, rfl, by simp, fun q hq _ => (Below.heap_alloc w.drew _ q hq)⟩⟩
    · simp only [Array.size_append, List.size_toArray, size_zeroCells, hzc, hown.1, List.length_replicate]
      simp
      omega
    · simp only [Array.toList_append, List.append_assoc]
      rw [← List.append_assoc, ← hlen]
      exact List.take_left
  have h63 : ¬ (9223372036854775807 < ((n : Int) + (k : Int))) := by omega
  rcases hown.2 with ⟨rfl, rfl⟩ | ⟨g, cap, cur, rfl, hbg, hg, hnc, hcm, hcs, htake⟩
  · have hx0 : xs = [] := List.eq_nil_of_length_eq_zero (by simpa using hown.1)
    subst hx0
    by_cases hm : k = 0
    · subst hm
      refine ⟨.slice none 0 0, w, ?_, World.ownsRow_nil w base e 1, ⟨rfl, rfl, rfl, Nat.le_refl _, fun _ _ _ => rfl⟩⟩
      simp [Builtin.append_, run_underlying ht, run_underlying hx, sizeOf, typeInfo, hi, asInt, asIntOf, hwr, hw0]
    · have hm0 : ¬ k ≤ 0 := by omega
      have h48' : ¬ (281474976710656 < Builtin.nextslicecap k 0 * 8) := by rw [nextslicecap_zero (by omega)]; omega
      have h63' : ¬ (9223372036854775807 < (k : Int)) := by omega
      have hgr := grown 0 (by omega) (Value.ownBlock (.slice none 0 0))
      simp only [Nat.zero_add, List.nil_append, Array.empty_append] at hgr ⊢
      refine ⟨_, _, ?_, hgr.1, hgr.2⟩
      simp [Builtin.append_, run_underlying ht, run_underlying hx, sizeOf, typeInfo, zeroValue, hi, hz, hsize, hby, asInt, asIntOf, hwr, hneg, hbig, hm, h63', h48', Question.forced, run_firstCells_none, newRow, grownCap, zeroCells_one z hzc]
  · by_cases hroom : n + k ≤ cap
    · have hst := run_storeCells_at P g n e (List.replicate k z) 0 cur w hg (by simp only [List.length_replicate]; omega) (fun u hu => by rw [(List.mem_replicate.1 hu).2]; exact hz1)
      simp only [Nat.add_zero] at hst
      have hadd : (⟨g, 0, none⟩ : Addr).add n = ⟨g, n, none⟩ := by unfold Addr.add; split <;> simp_all
      refine ⟨.slice (some ⟨g, 0, none⟩) (n + k) cap, _, ?_, ⟨hlen, .inr ⟨g, cap, _, rfl, hbg, setRow_heap w g cur (cur.toList.take n ++ List.replicate k z ++ cur.toList.drop (n + (List.replicate k z).length)).toArray e _ hg, hroom, hcm, ?_, ?_⟩⟩, ⟨rfl, rfl, rfl, by simp, fun q _ hq => setRow_other w g q _ (fun e => hq (by simp [Value.ownBlock, e]))⟩⟩
      · by_cases hm : k = 0
        · subst hm
          simp at hst
          simp [Builtin.append_, run_underlying ht, run_underlying hx, sizeOf, typeInfo, zeroValue, hi, hz, hsize, hby, asInt, asIntOf, hw0, hroom, hadd, hst]
          intro h
          omega
        · simp [Builtin.append_, run_underlying ht, run_underlying hx, sizeOf, typeInfo, zeroValue, hi, hz, hsize, hby, asInt, asIntOf, hwr, hneg, hbig, hm, hroom, hadd, zeroCells_one z hzc, hst]
      · simp only [List.size_toArray, List.length_append, List.length_take, List.length_drop, Array.length_toList, List.length_replicate]
        omega
      · have e : cur.toList.take n = xs := by rw [← htake, Nat.mul_one]
        rw [e, ← hlen]
        exact List.take_left
    · have holds : ∀ j u, xs[j]? = some u → w.cell? ((⟨g, 0, none⟩ : Addr).add j) = some u := hown.cells (g := g) rfl
      have hm : k ≠ 0 := by omega
      have hfit := growslice_fits (old := cap) (need := n + k) (bytes := 8) (by omega) (by omega)
      have h48' : ¬ (281474976710656 < Builtin.nextslicecap (n + k) cap * 8) := by omega
      have hfo := run_firstCells_some (P := P) w.drew 1 n ⟨g, 0, none⟩ n cap xs hown.1 (by simpa using holds)
      have hgr := grown cap (by omega) (Value.ownBlock (.slice (some ⟨g, 0, none⟩) n cap))
      refine ⟨_, _, ?_, hgr.1, hgr.2⟩
      simp [Builtin.append_, run_underlying ht, run_underlying hx, sizeOf, typeInfo, zeroValue, hi, hz, hsize, hby, asInt, asIntOf, hwr, hneg, hbig, hm, hroom, h63, h48', Question.forced, hfo, newRow, grownCap, zeroCells_one z hzc]

theorem run_append_none (base : Nat) (t ty e : TypeId) (i : TypeInfo) (ht : P.underlying t = some (.slice e)) (hi : P.info? e = some i) (hsize : i.size = 1)
    (v : Value) (n : Nat) (xs : List Value) (hown : w.ownsRow base e 1 v n xs) : (Builtin.append_ #[t, t] ty #[v, .slice none 0 0]).run P w = .ok v w := by
  rcases hown.2 with ⟨rfl, rfl⟩ | ⟨g, cap, cur, rfl, hbg, hg, hnc, hcm, hcs, htake⟩
  · simp [Builtin.append_, run_underlying ht, sizeOf, typeInfo, hi, Builtin.lenOf, Builtin.firstCells]
  · simp [Builtin.append_, run_underlying ht, sizeOf, typeInfo, hi, hsize, Builtin.lenOf, Builtin.firstCells, storeCells, hnc]
theorem run_append_two (base base2 : Nat) (t ty e : TypeId) (i : TypeInfo) (z : Value) (ht : P.underlying t = some (.slice e)) (hi : P.info? e = some i) (hz : i.zero = some z)
    (hsize : i.size = 1) (hby : i.bytes = 8) (hzs : z.cells.size = 1)
    (v : Value) (n : Nat) (xs : List Value) (hown : w.ownsRow base e 1 v n xs) (u : Value) (m : Nat) (ys : List Value) (hown2 : w.ownsRow base2 e 1 u m ys) (h1 : ∀ y ∈ ys, y.oneCell' = true) (hn : n ≤ 1000) (hm : m ≤ 1000) (hbase : base ≤ w.heap.size) :
    ∃ v' w', (Builtin.append_ #[t, t] ty #[v, u]).run P w = .ok v' w' ∧ w'.ownsRow base e 1 v' (n + m) (xs ++ ys) ∧ w.grownBy w' v.ownBlock := by
  rcases hown2.2 with ⟨rfl, rfl⟩ | ⟨g, cap, cur, rfl, hbg, hg, hnc, hcm, hcs, htake⟩
  · have hy : ys = [] := List.eq_nil_of_length_eq_zero (by simpa using hown2.1)
    subst hy
    exact ⟨v, w, run_append_none w base t ty e i ht hi hsize v n xs hown, by rw [List.append_nil]; exact hown, ⟨rfl, rfl, rfl, Nat.le_refl _, fun _ _ _ => rfl⟩⟩
  · obtain ⟨v', w', hr, ho, hgr, _⟩ := run_append_own (P := P) w base t ty e i z 1 8 ht hi hz hsize hby hzs (by decide) v n xs hown ⟨g, 0, none⟩ m cap ys hown2.1 (fun j u hu => hown2.cells (g := g) rfl j u hu) h1 (by unfold maxLen; omega) (by omega) hbase
    exact ⟨v', w', hr, ho, hgr⟩
end
theorem step_append {P : Program} {w : World} {ops : Array Oper} {rest : List Oper} {o : Oper} {a : Act} {Q : Exit → Act → World → Prop} (hgd : o.guard = none) (s x : Operand) (t u : TypeId)
    (ho : o.op = .call { callee := .builtin .append, args := #[s, x], argTypes := #[t, u] }) {v y v' : Value} {w' : World} (hs : a.eval s = v) (hx : a.eval x = y)
    (hr : (Builtin.append_ #[t, u] o.type #[v, y]).run P w = .ok v' w') (h : wpList P ops Q rest (a.put o.dst v') w') : wpList P ops Q (o :: rest) a w :=
  wpList_plain hgd fun _ hK => by
    unfold Oper.wp execOp
    simp only [ho, resolve, invoke, builtin, Sem.run_bind, Sem.run_pure, Result.andThen_ok, List.map_toArray, List.map_cons, List.map_nil, hs, hx, hr]
    exact hK _ _ h

/- slices.Clone of what is owned. -/
theorem own_here {w : World} {base n : Nat} {e : TypeId} {g cap : Nat} {xs : List Value} (h : w.ownsRow base e 1 (.slice (some ⟨g, 0, none⟩) n cap) n xs) : ∀ j u, xs[j]? = some u → w.cell? ((⟨g, 0, none⟩ : Addr).add j) = some u := fun j u hu => h.cells (g := g) rfl j u hu
set_option maxHeartbeats 1000000 in
set_option maxRecDepth 100000 in
theorem clone_any {w : World} {base : Nat} {v : Value} (L : List Nat) (h : w.ownsRow base 47 1 v L.length (cellsU L)) (hl : L.length ≤ 1000) : Calls Tryz.prog 154 #[v] w fun r w' => (∃ v', r = .returned v' ∧ w'.ownsRow w.heap.size 47 1 v' L.length (cellsU L)) ∧ Below w.heap.size w w' := by
  obtain ⟨i0, hi, hz0, hz1, hz2⟩ := info_parts info_u64
  rcases own_shape h with ⟨A, cap, rfl⟩
  cases A with
  | none =>
    have hn : L = [] := by
      rcases h.2 with ⟨_, h⟩ | ⟨g, cap, cur, h, _⟩
      · exact List.eq_nil_of_length_eq_zero h
      · cases h
    subst hn
    have hc : cap = 0 := by
      rcases h.2 with ⟨h, _⟩ | ⟨g, cap, cur, h, _⟩
      · cases h; rfl
      · cases h
    subst hc
    clear h
    have hb := Below.refl w.heap.size w
    have e1 : ∀ W, (binOp .eql 197 (.slice none 0 0) (.slice none 0 0)).run Tryz.prog W = .ok (.bool true) W := fun _ => by kernel_rfl
    go_enter Tryz.func154, Tryz.ntmps154
    go_wp2_with fail
    go_ret
    exact ⟨⟨.slice none 0 0, rfl, World.ownsRow_nil _ _ _ _⟩, hb⟩
  | some ad =>
    obtain ⟨g, rfl⟩ : ∃ g, ad = ⟨g, 0, none⟩ := by
      rcases h.2 with ⟨h, _⟩ | ⟨g, cap, cur, h, _⟩
      · cases h
      · cases h; exact ⟨g, rfl⟩
    have Hcells := Lib.hid (own_here h)
    have hg := (h.lt g rfl).2
    clear h
    have hE : (w.alloc (.cells #[] 47)).ownsRow w.heap.size 47 1 (.slice (some ⟨w.heap.size, 0, none⟩) 0 0) 0 [] := ⟨rfl, .inr ⟨w.heap.size, 0, #[], rfl, Nat.le_refl _, heap_alloc_new w _, Nat.le_refl _, by decide, rfl, rfl⟩⟩
    have HE := Lib.hid hE
    obtain ⟨n, hn⟩ : ∃ n, n = L.length := ⟨_, rfl⟩
    rw [← hn] at hl ⊢
    have Hn := Lib.hid hn
    have hb := boxed w (.cells #[] 47)
    have Hb := Lib.hid hb
    clear hE hn hb
    have e1 : ∀ W, (binOp .eql 197 (.slice (some ⟨g, 0, none⟩) n cap) (.slice none 0 0)).run Tryz.prog W = .ok (.bool false) W := fun _ => by kernel_rfl
    go_enter Tryz.func154, Tryz.ntmps154
    go_wp2_with (at_builtin; refine wpList_append_own _ rfl _ _ 197 rfl w.heap.size 47 i0 (.int .u64 0) 1 8 Tryz.underlying197 hi hz0 hz1 hz2 rfl (by decide) _ 0 [] rfl HE.out ⟨g, 0, none⟩ n cap (cellsU L) rfl (by rw [Hn.out]; simp [cellsU]) (fun j u hu => (World.cell?_alloc_lt w _ _ (by unfold Addr.add; split <;> simpa using hg)).trans (Hcells.out j u hu)) (fun x hx => by obtain ⟨y, _, rfl⟩ := List.mem_map.1 hx; rfl) (by unfold maxLen; omega) (by omega) (by simp) ?_; intro v' w3 hown' hgrow3 hnil3; have Ho3 := Lib.hid hown'; have hb3 := Lib.hid (Hb.out.grown hgrow3 (by simp) (fun q hq => (HE.out.lt q hq).1)); clear hown' hgrow3 hnil3)
    go_ret
    refine ⟨⟨v', rfl, ?_⟩, hb3.out⟩
    have := Ho3.out
    rwa [Nat.zero_add, List.nil_append] at this
end Go.Proofs.YtbiglifngfgffaaGreatDoor

/- Decode of IPv4: the walk. -/
namespace Go.Proofs.YtbiglifngfgffaaGreatDoor
open Go.RowKit
attribute [local go_sem ↓] Go.wp_at_zero Go.wp_at_succ

section
variable {W w w' : World} {r b k : Nat} {s : ByteArray} {Z : Array Value} {T : TypeId}
end

def Pk.zero : Pk := ⟨⟨false, 0, 0⟩, ⟨false, 0, 0⟩, 0, 0, ByteArray.empty⟩
end Go.Proofs.YtbiglifngfgffaaGreatDoor
