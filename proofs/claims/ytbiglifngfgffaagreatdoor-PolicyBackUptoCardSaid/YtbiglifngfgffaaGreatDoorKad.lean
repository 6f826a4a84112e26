/- Joined out of: PlA PlB PuA Env PuB PuC Fb TwA. -/
import Derived.Test.YtbiglifngfgffaaGreatDoorKaa
import Derived.Test.YtbiglifngfgffaaGreatDoorKab
import Derived.Test.YtbiglifngfgffaaGreatDoorKac
import Derived.Shelf.Strings.SlTrimAscii
import Derived.Shelf.Strings.FieldsFuncGrows
import Derived.Lib.MapLaws
import Derived.Lib.ParseIntB
import Derived.Test.YtbiglifngfgffaaGreatDoorProg
import Derived.Lib.LaidTab
import Derived.Lib.AppendIntMem
import Derived.Lib.ItoaNum
import Derived.Lib.ConvBytes
import Derived.Lib.AtoiErrMem
import Derived.Lib.Strings
import Derived.Laws.BitsAllLaws
import Derived.IntWalk
import Derived.Maps.AppendAt
set_option linter.unusedVariables false
set_option linter.unusedSimpArgs false

/- Label: the walk. -/
namespace Go.Proofs.YtbiglifngfgffaaGreatDoor
open Go.RowKit

def labSet : ByteArray := ⟨#[97, 98, 99, 100, 101, 102, 103, 104, 105, 106, 107, 108, 109, 110, 111, 112, 113, 114, 115, 116, 117, 118, 119, 120, 121, 122, 48, 49, 50, 51, 52, 53, 54, 55, 56, 57, 46, 95, 45]⟩
theorem labc_set (c : UInt8) : labSet.data.toList.contains c = labc c := by
  have h : ∀ n : Fin 256, labSet.data.toList.contains (UInt8.ofNat n.val) = labc (UInt8.ofNat n.val) := by decide +kernel
  have := h ⟨c.toNat, c.toNat_lt⟩
  simpa using this
theorem dropWhile_nil_iff (p : UInt8 → Bool) : ∀ l : List UInt8, l.dropWhile p = [] ↔ l.all p = true := by
  intro l
  induction l with
  | nil => simp
  | cons c r ih =>
    rw [List.dropWhile_cons, List.all_cons]
    cases h : p c with
    | true => simp [ih]
    | false => simp
theorem dropWhile_all {p : UInt8 → Bool} {l : List UInt8} (h : (l.dropWhile p).all p = true) : l.all p = true := by
  induction l with
  | nil => rfl
  | cons c r ih =>
    rw [List.dropWhile_cons] at h
    cases hc : p c with
    | true =>
      rw [hc, if_pos rfl] at h
      rw [List.all_cons, hc, ih h]
      rfl
    | false => rw [hc, if_neg (by decide)] at h; exact h
theorem trimS_nil (l cs : List UInt8) : (Lib.trimS l cs).isEmpty = l.all (cs.contains ·) := by
  have e : Lib.trimS l cs = [] ↔ l.all (cs.contains ·) = true := by
    unfold Lib.trimS Lib.trimLeftS Lib.trimRightS
    rw [dropWhile_nil_iff, List.all_reverse]
    constructor
    · intro h
      have := dropWhile_all h
      rwa [List.all_reverse] at this
    · intro h
      have : (l.reverse.dropWhile fun x => cs.contains x) = [] := (dropWhile_nil_iff _ _).2 (by rw [List.all_reverse]; exact h)
      rw [this]
      rfl
  cases h : l.all (cs.contains ·) with
  | true => rw [e.2 h]; rfl
  | false =>
    cases ht : Lib.trimS l cs with
    | nil => rw [e.1 ht] at h; cases h
    | cons _ _ => rfl
theorem label_cons {s : ByteArray} (h : 0 < s.size) : labelB s = (decide (s.size ≤ 32) && az (s[0]'h) && s.data.toList.all labc) := by
  have hl : s.data.toList.length = s.size := by rw [Array.length_toList]; rfl
  unfold labelB
  have h0 : s.data.toList[0]? = some (s[0]'h) := by
    rw [List.getElem?_eq_getElem (by omega)]
    simp
    rfl
  cases hs : s.data.toList with
  | nil => rw [hs] at hl; simp at hl; omega
  | cons c r =>
    rw [hs] at h0 hl
    injection h0 with h0
    unfold labelL
    rw [← h0, List.all_cons, List.length_cons] at *
    simp only
    cases hc : az c with
    | false => simp
    | true =>
      rw [az_labc hc, Bool.true_and]
      congr 2
      by_cases h32 : s.size ≤ 32
      · rw [decide_eq_true h32, decide_eq_true (by omega)]
      · rw [decide_eq_false h32, decide_eq_false (by omega)]

set_option maxHeartbeats 2000000 in
set_option maxRecDepth 100000 in
theorem label_any (s : ByteArray) (hs : s.size ≤ 4000000) (w : World) : Calls Tryz.prog 16 #[.string s] w (Got (.bool (labelB s)) w) := by
  have htr : ∀ v, Calls Tryz.prog 42 #[.string s, .string labSet] v (Got (.string ⟨(Lib.trimS s.data.toList labSet.data.toList).toArray⟩) v) := fun v => Any.strings_Trim_laid Tryz.lays160 (by kernel_rfl) s labSet v (by omega) (by decide) (ascii_of_all (by decide))
  have hb0 := Below.refl w.heap.size w
  have hset := trimS_nil s.data.toList labSet.data.toList
  rw [show (fun x => labSet.data.toList.contains x) = labc from funext labc_set] at hset
  by_cases h0 : s.size = 0
  · have he : s = ByteArray.empty := ByteArray.ext (Array.eq_empty_of_size_eq_zero h0)
    subst he
    go_enter Tryz.func16, Tryz.ntmps16
    go_wp2_with fail
    go_ret
    exact ⟨rfl, hb0⟩
  · have hp : 0 < s.size := by omega
    have hemp : s.toList.isEmpty = false := by
      rw [← decide_eq_emptyBytes]
      exact decide_eq_false (fun h => h0 (by rw [h]; rfl))
    rw [label_cons hp]
    generalize hx : (s[0]'hp).toNat = x0
    have hazx : az (s[0]'hp) = decide (97 ≤ x0 ∧ x0 ≤ 122) := by unfold az; rw [hx]
    rw [hazx]
    generalize hT : (⟨(Lib.trimS s.data.toList labSet.data.toList).toArray⟩ : ByteArray) = TT at htr
    have hTe : TT.toList.isEmpty = s.data.toList.all labc := by rw [← hset, ← hT, ByteArray.toList_eq]
    generalize s.data.toList.all labc = LL at hTe ⊢
    unfold labSet at htr
    have HTR := Lib.hid htr
    clear htr hset hT h0 hazx
    by_cases h32 : s.size ≤ 32
    · have q1 : ¬ (32 : Int) < (s.size : Int) := by omega
      by_cases h97 : x0 < 97
      · have q2 : (x0 : Int) < 97 := by omega
        rw [show decide (97 ≤ x0 ∧ x0 ≤ 122) = false from decide_eq_false (by omega), Bool.and_false, Bool.false_and]
        clear h97 h32
        go_enter Tryz.func16, Tryz.ntmps16
        go_wp2_with fail
        go_ret
        exact ⟨rfl, hb0⟩
      · have q2 : ¬ (x0 : Int) < 97 := by omega
        by_cases h122 : 122 < x0
        · have q3 : (122 : Int) < (x0 : Int) := by omega
          rw [show decide (97 ≤ x0 ∧ x0 ≤ 122) = false from decide_eq_false (by omega), Bool.and_false, Bool.false_and]
          clear h97 h32 h122
          go_enter Tryz.func16, Tryz.ntmps16
          go_wp2_with fail
          go_ret
          exact ⟨rfl, hb0⟩
        · have q3 : ¬ (122 : Int) < (x0 : Int) := by omega
          rw [show decide (97 ≤ x0 ∧ x0 ≤ 122) = true from decide_eq_true (by omega), decide_eq_true h32, Bool.true_and, Bool.true_and]
          clear h97 h32 h122
          go_enter Tryz.func16, Tryz.ntmps16
          go_wp2_with (go_at_call 42; (with_reducible refine (HTR.out _).mono ?_); rintro r w2 ⟨rfl, d2⟩)
          go_ret
          exact ⟨rfl, d2⟩
    · have q1 : (32 : Int) < (s.size : Int) := by omega
      rw [decide_eq_false h32, Bool.false_and, Bool.false_and]
      clear h32
      go_enter Tryz.func16, Tryz.ntmps16
      go_wp2_with fail
      go_ret
      exact ⟨rfl, hb0⟩
end Go.Proofs.YtbiglifngfgffaaGreatDoor

/- The library's FieldsFunc at blanks and tabs: byte by byte. -/
namespace Go.Proofs.YtbiglifngfgffaaGreatDoor
open Go.RowKit

def blankR (r : Nat) : Bool := decide (r = 32) || decide (r = 9)
theorem blankR_ge {r : Nat} (h : 128 ≤ r) : blankR r = false := by
  unfold blankR
  rw [decide_eq_false (by omega), decide_eq_false (by omega)]
  rfl
theorem blank_nat (c : UInt8) : blank c = blankR c.toNat := by
  unfold blank blankR
  have e1 : (c = 32) ↔ c.toNat = 32 := ⟨fun h => by rw [h]; rfl, fun h => UInt8.toNat_inj.1 h⟩
  have e2 : (c = 9) ↔ c.toNat = 9 := ⟨fun h => by rw [h]; rfl, fun h => UInt8.toNat_inj.1 h⟩
  simp [e1, e2]
theorem get_list (s : ByteArray) (i : Nat) : s.get! i = s.data.toList.getD i 0 := by
  show s.data[i]! = _
  rw [List.getD_eq_getElem?_getD, Array.getElem?_toList, Array.getElem!_eq_getD, Array.getD_eq_getD_getElem?]
  rfl
theorem decode_facts (s : ByteArray) (pos : Nat) (h : pos < s.size) :
    ((s.data.toList.getD pos 0).toNat < 128 → (Utf8.decode s pos) = ((s.data.toList.getD pos 0).toNat, 1)) ∧ (128 ≤ (s.data.toList.getD pos 0).toNat → 128 ≤ (Utf8.decode s pos).1) ∧ 1 ≤ (Utf8.decode s pos).2 ∧ pos + (Utf8.decode s pos).2 ≤ s.size ∧ ∀ j, 0 < j → j < (Utf8.decode s pos).2 → 128 ≤ (s.data.toList.getD (pos + j) 0).toNat := by
  rw [Lib.decode_at, get_list, get_list, get_list, get_list]
  generalize (s.data.toList.getD pos 0).toNat = b0
  generalize h1 : (s.data.toList.getD (pos + 1) 0).toNat = b1
  generalize h2 : (s.data.toList.getD (pos + 2) 0).toNat = b2
  generalize h3 : (s.data.toList.getD (pos + 3) 0).toNat = b3
  rcases Lib.decodeN_shape (s.size - pos) b0 b1 b2 b3 with ⟨a, e⟩ | ⟨a, b, c, d, e⟩ | ⟨a, b, c, d, f, g, e⟩ | ⟨a, b, c, d, f, g, k, e⟩ | e
  · rw [e]
    exact ⟨fun _ => rfl, fun _ => by simp only; omega, Nat.le_refl _, by simp only; omega, fun j h0 hj => by simp only at hj; omega⟩
  · rw [e]
    refine ⟨fun _ => by omega, fun _ => d, by simp only; omega, by simp only; omega, fun j h0 hj => ?_⟩
    simp only at hj
    obtain rfl : j = 1 := by omega
    rw [h1]
    omega
  · rw [e]
    refine ⟨fun _ => by omega, fun _ => by simp only; omega, by simp only; omega, by simp only; omega, fun j h0 hj => ?_⟩
    simp only at hj
    have : j = 1 ∨ j = 2 := by omega
    rcases this with rfl | rfl
    · rw [h1]; omega
    · rw [h2]; omega
  · rw [e]
    refine ⟨fun _ => by omega, fun _ => by simp only; omega, by simp only; omega, by simp only; omega, fun j h0 hj => ?_⟩
    simp only at hj
    have : j = 1 ∨ j = 2 ∨ j = 3 := by omega
    rcases this with rfl | rfl | rfl
    · rw [h1]; omega
    · rw [h2]; omega
    · rw [h3]; omega
  · rw [e]
    refine ⟨fun hb => ?_, fun _ => by decide, by simp only; omega, by simp only; omega, fun j h0 hj => by simp only at hj; omega⟩
    rw [← e]
    simp [Lib.decodeN, hb]
def extL (L : List UInt8) (x : Nat × Nat) : List UInt8 := (L.take x.2).drop x.1
def curL (L : List UInt8) (pos : Nat) : Option Nat → List UInt8
  | none => []
  | some a => (L.take pos).drop a
theorem spansP_none (p : Nat → Bool) (s : ByteArray) (f pos : Nat) (acc : List (Nat × Nat)) : Lib.spansFromP p s (f + 1) pos none acc = if pos < s.size then (if p (Utf8.decode s pos).1 = true then Lib.spansFromP p s f (pos + (Utf8.decode s pos).2) none acc else Lib.spansFromP p s f (pos + (Utf8.decode s pos).2) (some pos) acc) else (acc, none) := rfl
theorem spansP_some (p : Nat → Bool) (s : ByteArray) (f pos a : Nat) (acc : List (Nat × Nat)) : Lib.spansFromP p s (f + 1) pos (some a) acc = if pos < s.size then (if p (Utf8.decode s pos).1 = true then Lib.spansFromP p s f (pos + (Utf8.decode s pos).2) none (acc ++ [(a, pos)]) else Lib.spansFromP p s f (pos + (Utf8.decode s pos).2) (some a) acc) else (acc, some a) := rfl
theorem spans_fields (s : ByteArray) : ∀ (f pos : Nat) (st : Option Nat) (acc : List (Nat × Nat)), s.size ≤ pos + f → pos ≤ s.size → (∀ a, st = some a → a < pos) →
    (Lib.closeSpans s (Lib.spansFromP blankR s f pos st acc)).map (extL s.data.toList) = acc.map (extL s.data.toList) ++ fieldsGo (curL s.data.toList pos st) (s.data.toList.drop pos) := by
  have hlen : s.data.toList.length = s.size := by rw [Array.length_toList]; rfl
  have fin : ∀ (pos : Nat) (st : Option Nat) (acc : List (Nat × Nat)), pos = s.size → (∀ a, st = some a → a < pos) → (Lib.closeSpans s (acc, st)).map (extL s.data.toList) = acc.map (extL s.data.toList) ++ fieldsGo (curL s.data.toList pos st) (s.data.toList.drop pos) := by
    intro pos st acc hp hst
    rw [List.drop_of_length_le (by omega)]
    cases st with
    | none => simp [Lib.closeSpans, curL, fieldsGo]
    | some a =>
      have ha := hst a rfl
      have hne : curL s.data.toList pos (some a) ≠ [] := by
        intro e
        have := congrArg List.length e
        simp [curL] at this
        omega
      rw [fieldsGo, if_neg hne]
      simp [Lib.closeSpans, extL, curL, hp]
  intro f
  induction f with
  | zero =>
    intro pos st acc hf hp hst
    exact fin pos st acc (by omega) hst
  | succ f ih =>
    intro pos st acc hf hp hst
    by_cases hlt : pos < s.size
    · obtain ⟨f1, f2, f3, f4, f5⟩ := decode_facts s pos hlt
      have hget : ∀ i (hi : i < s.data.toList.length), s.data.toList.getD i 0 = s.data.toList[i] := fun i hi => by rw [List.getD_eq_getElem?_getD, List.getElem?_eq_getElem hi]; rfl
      by_cases hb : blankR (Utf8.decode s pos).1 = true
      · have h128 : (s.data.toList.getD pos 0).toNat < 128 := by
          rcases Nat.lt_or_ge (s.data.toList.getD pos 0).toNat 128 with h | h
          · exact h
          · rw [blankR_ge (f2 h)] at hb; cases hb
        have e := f1 h128
        have hb0 := hb
        rw [e] at hb
        simp only at hb
        have hd : s.data.toList.drop pos = s.data.toList[pos] :: s.data.toList.drop (pos + 1) := List.drop_eq_getElem_cons (by omega)
        have hbl : blank s.data.toList[pos] = true := by rw [blank_nat, ← hget pos (by omega)]; exact hb
        cases st with
        | none =>
          rw [spansP_none, if_pos hlt, if_pos hb0, e]
          simp only
          rw [ih _ _ _ (by omega) (by omega) (fun a h => by cases h), hd]
          conv => rhs; rw [curL, fieldsGo, if_pos hbl, if_pos rfl]
          rfl
        | some a =>
          have ha := hst a rfl
          have hne : curL s.data.toList pos (some a) ≠ [] := by
            intro e
            have := congrArg List.length e
            simp [curL] at this
            omega
          rw [spansP_some, if_pos hlt, if_pos hb0, e]
          simp only
          rw [ih _ _ _ (by omega) (by omega) (fun a h => by cases h), hd]
          conv => rhs; rw [fieldsGo, if_pos hbl, if_neg hne]
          rw [List.map_append, List.append_assoc]
          rfl
      · have hb0 := hb
        generalize hK : (Utf8.decode s pos).2 = K at f3 f4 f5
        have seg : ∀ c ∈ (s.data.toList.drop pos).take K, blank c = false := by
          intro c hc
          obtain ⟨j, hj, rfl⟩ := List.getElem_of_mem hc
          rw [List.length_take, List.length_drop] at hj
          rw [List.getElem_take, List.getElem_drop, blank_nat, ← hget (pos + j) (by omega)]
          by_cases h0 : j = 0
          · subst h0
            rw [Nat.add_zero]
            rcases Nat.lt_or_ge (s.data.toList.getD pos 0).toNat 128 with h | h
            · have := f1 h
              rw [this] at hb
              simpa using hb
            · exact blankR_ge h
          · exact blankR_ge (f5 j (by omega) (by omega))
        have hd : s.data.toList.drop pos = (s.data.toList.drop pos).take K ++ s.data.toList.drop (pos + K) := by
          rw [← List.drop_drop]
          exact (List.take_append_drop K _).symm
        have cur : ∀ a, a ≤ pos → (s.data.toList.take (pos + K)).drop a = (s.data.toList.take pos).drop a ++ (s.data.toList.drop pos).take K := by
          intro a ha
          rw [List.take_add, List.drop_append_of_le_length (by rw [List.length_take]; omega)]
        cases st with
        | none =>
          rw [spansP_none, if_pos hlt, if_neg hb0, hK]
          rw [ih _ _ _ (by omega) (by omega) (fun a h => by injection h with h; omega)]
          conv => rhs; rw [hd, fieldsGo_solid _ _ _ seg]
          congr 2
          rw [curL, curL, cur pos (Nat.le_refl _), List.nil_append, List.drop_of_length_le (by rw [List.length_take]; omega), List.nil_append]
        | some a =>
          have ha := hst a rfl
          rw [spansP_some, if_pos hlt, if_neg hb0, hK]
          rw [ih _ _ _ (by omega) (by omega) (fun b h => by injection h with h; omega)]
          conv => rhs; rw [hd, fieldsGo_solid _ _ _ seg]
          congr 2
          rw [curL, curL, cur a (by omega)]
    · have hx : Lib.spansFromP blankR s (f + 1) pos st acc = (acc, st) := Lib.spansFromP_end _ _ _ _ _ _ hlt
      rw [hx]
      exact fin pos st acc (by omega) hst
theorem fields_are (s : ByteArray) : Lib.goFieldsP blankR s = (fieldsB s.data.toList).map ofL := by
  have h := spans_fields s s.size 0 none [] (by omega) (by omega) (fun a h => by cases h)
  rw [List.map_nil, List.nil_append, List.drop_zero] at h
  unfold fieldsB
  rw [show curL s.data.toList 0 none = [] from rfl] at h
  rw [← h, List.map_map]
  unfold Lib.goFieldsP Lib.spansOfP
  apply List.map_congr_left
  intro x _
  show s.extract x.1 x.2 = ofL (extL s.data.toList x)
  unfold ofL extL
  apply ByteArray.ext
  rw [ByteArray.data_extract]
  apply Array.ext'
  rw [Array.toList_extract]
  simp [List.drop_take]
end Go.Proofs.YtbiglifngfgffaaGreatDoor

/- Numbers read off texts: the plain law against the library's own. -/
namespace Go.Proofs.YtbiglifngfgffaaGreatDoor

/- What a parser answers: a number and no error, or an error. -/
def PuRes (base B : Nat) (l : List UInt8) (r : Ending) : Prop := (∃ n : Nat, num1 base B l = some n ∧ r = .returned (.tuple #[.int .u64 (n : Int), .nilIface])) ∨ (num1 base B l = none ∧ ∃ (n : Nat) (tp : TypeId) (p : Value), n < 18446744073709551616 ∧ r = .returned (.tuple #[.int .u64 (n : Int), .iface tp p]))

theorem dval10 (c : UInt8) : dval 10 c = if 48 ≤ c.toNat ∧ c.toNat ≤ 57 then some (c.toNat - 48) else none := by
  unfold dval
  split
  · rw [if_pos (by omega)]
  · split
    · rw [if_neg (by omega)]
    · split
      · rw [if_neg (by omega)]
      · rfl
theorem pval_none_lt {dv : UInt8 → Option Nat} {base B acc : Nat} {l : List UInt8} (hb : 1 ≤ base) (h : B ≤ acc) : (pval dv base acc l).bind (fun n => if n < B then some n else none) = none := by
  cases e : pval dv base acc l with
  | none => rfl
  | some n =>
    have := pval_ge dv base hb l acc n e
    simp only [Option.bind_some]
    rw [if_neg (by omega)]
/- The library's reading at a bound M = B - 1. -/
theorem pval_M {M : Nat} (hM : M < 18446744073709551616) : ∀ (l : List UInt8) (acc : Nat), acc ≤ M → (match Lib.parseUintM M acc l with
    | .ok u => (pval (dval 10) 10 acc l).bind (fun n => if n < M + 1 then some n else none) = some u
    | _ => (pval (dval 10) 10 acc l).bind (fun n => if n < M + 1 then some n else none) = none) := by
  intro l
  induction l with
  | nil => intro acc h; simp only [Lib.parseUintM, pval, Option.bind_some]; rw [if_pos (by omega)]
  | cons c r ih =>
    intro acc h
    unfold Lib.parseUintM pval
    rw [dval10]
    by_cases hd : 48 ≤ c.toNat ∧ c.toNat ≤ 57
    · rw [if_pos hd, if_pos hd]
      simp only
      by_cases hc : 1844674407370955162 ≤ acc
      · rw [if_pos hc]
        exact pval_none_lt (by decide) (by omega)
      · rw [if_neg hc]
        by_cases hm : M < acc * 10 + (c.toNat - 48)
        · rw [if_pos hm]
          exact pval_none_lt (by decide) (by omega)
        · rw [if_neg hm]
          exact ih _ (by omega)
    · rw [if_neg hd, if_neg hd]
      rfl
theorem num1_B {B : Nat} (hB : B ≤ 64) (l : List UInt8) : (match Lib.parseUintB B l with
    | .ok u => num1 10 (2 ^ B) l = some u
    | _ => num1 10 (2 ^ B) l = none) := by
  have hp : 0 < 2 ^ B := Nat.pow_pos (by decide)
  have hl : 2 ^ B ≤ 2 ^ 64 := Nat.pow_le_pow_right (by decide) hB
  unfold Lib.parseUintB num1
  by_cases h : l = []
  · rw [if_pos h, if_pos h]
  · rw [if_neg h, if_neg h]
    have := pval_M (M := 2 ^ B - 1) (by omega) l 0 (by omega)
    rw [show 2 ^ B - 1 + 1 = 2 ^ B by omega] at this
    exact this
end Go.Proofs.YtbiglifngfgffaaGreatDoor

/- The library's variables that the walks read: kept by whatever leaves old blocks alone. -/
namespace Go.Proofs.YtbiglifngfgffaaGreatDoor
open Go.RowKit

structure Env (w : World) : Prop where
  mx : ∃ m : Int, w.cell? ⟨0, 0, none⟩ = some (.int .i64 m)
  pow : Lib.TabIs Tryz.prog w "internal/strconv.uint64pow10" .u64 Lib.pow10Tab
  db : w.cell? ⟨7, 15, none⟩ = some (.int .u8 4)
  es : ∃ (tp : TypeId) (p : Value), w.cell? ⟨4, 0, none⟩ = some (.iface tp p)
  er : ∃ (tp : TypeId) (p : Value), w.cell? ⟨5, 0, none⟩ = some (.iface tp p)
theorem Env.below {w w' : World} (h : Env w) (hb : Below w.heap.size w w') : Env w' := by
  have c : ∀ {i o : Nat} {v : Value}, w.cell? ⟨i, o, none⟩ = some v → w'.cell? ⟨i, o, none⟩ = some v := fun {i o v} hv => (hb.cell (p := ⟨i, o, none⟩) (World.block_lt_of_cell? w _ hv)).trans hv
  obtain ⟨m, hm⟩ := h.mx
  obtain ⟨t1, p1, h1⟩ := h.es
  obtain ⟨t2, p2, h2⟩ := h.er
  exact ⟨⟨m, c hm⟩, Lib.tabBelow_of_tabIs h.pow w' hb, c h.db, ⟨t1, p1, c h1⟩, ⟨t2, p2, c h2⟩⟩
end Go.Proofs.YtbiglifngfgffaaGreatDoor

/- strconv.ParseUint of base 16 and 64 bits: the walk; of base 10 off the shelf. -/
namespace Go.Proofs.YtbiglifngfgffaaGreatDoor
open Go.RowKit

def low32 (c : Nat) : Nat := c ||| 32
theorem low32_lt (c : Nat) (h : c < 256) : low32 c < 256 := Nat.or_lt_two_pow (n := 8) h (by decide)
theorem low32_dval : ∀ c : Fin 256, ¬ (48 ≤ c.1 ∧ c.1 ≤ 57) → dval 16 (UInt8.ofNat c.1) = if 97 ≤ low32 c.1 ∧ low32 c.1 ≤ 102 then some (low32 c.1 - 97 + 10) else none := by decide +kernel
theorem dval_letter (c : UInt8) (h : ¬ (48 ≤ c.toNat ∧ c.toNat ≤ 57)) : dval 16 c = if 97 ≤ low32 c.toNat ∧ low32 c.toNat ≤ 102 then some (low32 c.toNat - 97 + 10) else none := by
  have := low32_dval ⟨c.toNat, c.toNat_lt⟩ h
  rwa [UInt8.ofNat_toNat] at this
theorem dval_digit (c : UInt8) (h : 48 ≤ c.toNat ∧ c.toNat ≤ 57) : dval 16 c = some (c.toNat - 48) := by
  unfold dval
  rw [if_pos h, if_pos (by omega)]
theorem lower_any (c : Nat) (hc : c < 256) (w : World) : Calls Tryz.prog 155 #[.int .u8 (c : Int)] w fun e w' => e = .returned (.int .u8 (low32 c : Int)) ∧ w = w' := by
  have e1 : bits .or .u8 (c : Int) 32 = (low32 c : Int) := u8_or_nat c 32 hc (by decide)
  go_enter Tryz.func155, Tryz.ntmps155
  go_wp2_with fail
  go_ret
  exact ⟨rfl, rfl⟩

/- What the inner one answers: a number, or which error. -/
def PuIn (l : List UInt8) (r : Ending) : Prop := (∃ n : Nat, num1 16 18446744073709551616 l = some n ∧ r = .returned (.tuple #[.int .u64 (n : Int), .nilIface])) ∨ (num1 16 18446744073709551616 l = none ∧ ((r = .returned (.tuple #[.int .u64 0, .iface 216 (.int .i64 2)])) ∨ (r = .returned (.tuple #[.int .u64 18446744073709551615, .iface 216 (.int .i64 1)]))))
theorem PuIn.bad {l : List UInt8} (h : num1 16 18446744073709551616 l = none) : PuIn l (.returned (.tuple #[.int .u64 0, .iface 216 (.int .i64 2)])) := Or.inr ⟨h, Or.inl rfl⟩
theorem PuIn.big {l : List UInt8} (h : num1 16 18446744073709551616 l = none) : PuIn l (.returned (.tuple #[.int .u64 18446744073709551615, .iface 216 (.int .i64 1)])) := Or.inr ⟨h, Or.inr rfl⟩
def num16 (acc : Nat) (l : List UInt8) : Option Nat := (pval (dval 16) 16 acc l).bind fun n => if n < 18446744073709551616 then some n else none
theorem num16_big {acc : Nat} {l : List UInt8} (h : 18446744073709551616 ≤ acc) : num16 acc l = none := pval_none_lt (by decide) h
theorem num16_cons (acc : Nat) (c : UInt8) (r : List UInt8) : num16 acc (c :: r) = match dval 16 c with
    | none => none
    | some d => num16 (acc * 16 + d) r := by
  unfold num16
  conv => lhs; arg 1; unfold pval
  cases dval 16 c <;> rfl

set_option maxHeartbeats 8000000 in
set_option maxRecDepth 100000 in
theorem pu16_in (t : ByteArray) (hmax : t.size ≤ 9223372036854775806) (w : World) : Calls Tryz.prog 143 #[.string t, .int .i64 16, .int .i64 64] w fun e w' => PuIn t.data.toList e ∧ Below w.heap.size w w' := by
  by_cases hne : t.size = 0
  · have he : t = ⟨#[]⟩ := by
      apply ByteArray.ext
      exact Array.eq_empty_of_size_eq_zero hne
    rw [he]
    have hb := Below.refl w.heap.size w
    go_enter Tryz.func143, Tryz.ntmps143
    go_wp2_with fail
    go_ret2
    exact ⟨PuIn.bad rfl, hb⟩
  have hemp : t.toList.isEmpty = false := by
    rw [← decide_eq_emptyBytes]
    exact decide_eq_false (fun h => hne (by rw [h]; rfl))
  have hcv := Lib.run_convert_string_bytes (P := Tryz.prog) w 9 40 5 t Tryz.underlying9 Tryz.underlying40 Tryz.underlying5
  have hB : ∀ j, j < t.size → (Lib.bytesWorld w 5 t).cell? ⟨w.heap.size, j, none⟩ = some (.int .u8 (t.data.toList.getD j 0).toNat) := fun j hj => Lib.bytesWorld_cell w 5 t j hj
  have hbl := Lib.bytesWorld_below w 5 t
  obtain ⟨W1, hW1⟩ : ∃ W1, W1 = Lib.bytesWorld w 5 t := ⟨_, rfl⟩
  rw [← hW1] at hcv hB hbl
  clear hW1
  have Hbl := Lib.hid hbl
  clear hbl
  obtain ⟨bs, hL⟩ : ∃ bs, bs = t.data.toList := ⟨_, rfl⟩
  have hLn : bs.length = t.size := by rw [hL, Lib.size_eq]
  rw [← hL] at hB ⊢
  have hbs : bs ≠ [] := fun e => hne (by rw [← hLn, e]; rfl)
  clear hL
  have hnum : num1 16 18446744073709551616 bs = num16 0 bs := by
    unfold num1 num16
    rw [if_neg hbs]
  have Hnum := Lib.hid hnum
  have HBc := Lib.hid hB
  have HLn := Lib.hid hLn
  clear hnum hB hLn hbs hne
  have hmv : IntKind.u64.wrap (IntKind.u64.wrap 18446744073709551616 - 1) = 18446744073709551615 := by
    rw [IntKind.wrap_u64, IntKind.wrap_u64]
    decide
  go_enter Tryz.func143, Tryz.ntmps143
  go_wp2_with fail
  go_loop [12, 13, 101] (fun vu vn vi => ∃ (k acc : Nat) (a : Int), vu = .bool false ∧ vn = .int .u64 a ∧ vi = .int .i64 k ∧ k ≤ t.size ∧ Hid (a = (acc : Int) ∧ acc < 18446744073709551616 ∧ num16 0 bs = num16 acc (bs.drop k)))
    (fun _ _ vi => t.size - (intOf vi).toNat)
  case atStart => exact ⟨0, 0, 0, rfl, rfl, rfl, by omega, rfl, by omega, rfl⟩
  case round =>
    obtain ⟨k, acc, a, rfl, rfl, rfl, hk, hh⟩ := hrel
    obtain ⟨ha, hacc, hdec⟩ := hh.out
    clear hh
    have a0 : 0 ≤ a := by omega
    have a1 : a < 18446744073709551616 := by omega
    by_cases hkn : k < t.size
    · have hkl : k < bs.length := by have := HLn.out; omega
      have hc := HBc.out k hkn
      have hdrop : bs.drop k = bs[k]'hkl :: bs.drop (k + 1) := List.drop_eq_getElem_cons hkl
      have hget : bs.getD k 0 = bs[k]'hkl := by simp [List.getD, List.getElem?_eq_getElem hkl]
      rw [hdrop, num16_cons] at hdec
      rw [hget] at hc
      generalize bs[k]'hkl = c at hc hdec
      have hc256 : c.toNat < 256 := c.toNat_lt
      have hdd := dval_digit c
      have hdl := dval_letter c
      have hlw := Lib.hid (lower_any c.toNat hc256 W1)
      have hm256 := low32_lt c.toNat hc256
      have h95 : c.toNat = 95 → low32 c.toNat = 127 := fun h => by rw [h]; rfl
      generalize low32 c.toNat = m at hdl hlw hm256 h95
      generalize dval 16 c = D at hdec hdd hdl
      generalize c.toNat = x at hc hc256 hdd hdl hlw h95
      clear hdrop hget
      by_cases hdig : 48 ≤ x ∧ x ≤ 57
      · obtain ⟨hd0, hd1⟩ := hdig
        rw [hdd ⟨hd0, hd1⟩] at hdec
        simp only at hdec
        clear hdd hdl
        by_cases hcut : 1152921504606846976 ≤ acc
        · have hF : num16 0 bs = none := by rw [hdec]; exact num16_big (by omega)
          have icut : 1152921504606846976 ≤ a := by omega
          have HF := Lib.hid hF
          clear hcut hacc hF ha hdec
          go_wp2_with fail
          go_ret2
          exact ⟨PuIn.big (Hnum.out.trans HF.out), Hbl.out⟩
        · have HN : Hid (a * 16 + ((x : Int) - 48) = ((acc * 16 + (x - 48) : Nat) : Int) ∧ acc * 16 + (x - 48) < 18446744073709551616 ∧ num16 0 bs = num16 (acc * 16 + (x - 48)) (bs.drop (k + 1))) := Lib.hid ⟨by omega, by omega, hdec⟩
          have icut : a < 1152921504606846976 := by omega
          have iov : a * 16 + ((x : Int) - 48) < 18446744073709551616 := by omega
          clear hcut hacc hdec ha
          go_wp2_with fail
          refine ⟨⟨k + 1, acc * 16 + (x - 48), a * 16 + ((x : Int) - 48), rfl, (by first | rfl | (congr 1; omega)), (by first | rfl | (congr 1; omega)), by omega, HN⟩, by simp [intOf]; omega⟩
      · rw [hdl hdig] at hdec
        clear hdd hdl
        by_cases hx95 : x = 95
        · have hm127 := h95 hx95
          subst hx95
          subst hm127
          rw [if_neg (by omega)] at hdec
          simp only at hdec
          have HF := Lib.hid hdec
          have hl2 : Calls Tryz.prog 155 #[.int .u8 95] W1 fun e w' => e = .returned (.int .u8 127) ∧ W1 = w' := hlw.out
          have Hl2 := Lib.hid hl2
          have hc2 : W1.cell? ⟨w.heap.size, k, none⟩ = some (.int .u8 95) := hc
          clear hc hdec hacc ha hdig hm256 hc256 h95 hlw hl2
          go_wp2_with (go_at_call 155; (with_reducible refine Hl2.out.mono ?_); rintro e w' ⟨rfl, rfl⟩)
          all_goals (go_ret2; exact ⟨PuIn.bad (Hnum.out.trans HF.out), Hbl.out⟩)
        · have hq95 : ((x : Int) == 95) = false := by simp; omega
          clear h95 hx95
          by_cases hlet : 97 ≤ m ∧ m ≤ 102
          · rw [if_pos hlet] at hdec
            simp only at hdec
            obtain ⟨hm0, hm1⟩ := hlet
            have hm2 : m ≤ 122 := by omega
            by_cases hcut : 1152921504606846976 ≤ acc
            · have hF : num16 0 bs = none := by rw [hdec]; exact num16_big (by omega)
              have icut : 1152921504606846976 ≤ a := by omega
              have HF := Lib.hid hF
              clear hcut hacc hF ha hdec
              go_wp2_with (go_at_call 155; (with_reducible refine (hlw.out).mono ?_); rintro e w' ⟨rfl, rfl⟩)
              all_goals (go_ret2; exact ⟨PuIn.big (Hnum.out.trans HF.out), Hbl.out⟩)
            · have HN : Hid (a * 16 + ((m : Int) - 97 + 10) = ((acc * 16 + (m - 97 + 10) : Nat) : Int) ∧ acc * 16 + (m - 97 + 10) < 18446744073709551616 ∧ num16 0 bs = num16 (acc * 16 + (m - 97 + 10)) (bs.drop (k + 1))) := Lib.hid ⟨by omega, by omega, hdec⟩
              have icut : a < 1152921504606846976 := by omega
              have iov : a * 16 + ((m : Int) - 97 + 10) < 18446744073709551616 := by omega
              clear hcut hacc hdec ha
              go_wp2_with (go_at_call 155; (with_reducible refine (hlw.out).mono ?_); rintro e w' ⟨rfl, rfl⟩)
              all_goals exact ⟨⟨k + 1, acc * 16 + (m - 97 + 10), a * 16 + ((m : Int) - 97 + 10), rfl, (by first | rfl | (congr 1; omega)), (by first | rfl | (congr 1; omega)), by omega, HN⟩, by simp [intOf]; omega⟩
          · rw [if_neg hlet] at hdec
            simp only at hdec
            have HF := Lib.hid hdec
            clear hdec hacc ha
            by_cases hm0 : 97 ≤ m
            · by_cases hm1 : m ≤ 122
              · have hm2 : 102 < m := by omega
                clear hlet
                go_wp2_with (go_at_call 155; (with_reducible refine (hlw.out).mono ?_); rintro e w' ⟨rfl, rfl⟩)
                all_goals (go_ret2; exact ⟨PuIn.bad (Hnum.out.trans HF.out), Hbl.out⟩)
              · clear hlet
                go_wp2_with (go_at_call 155; (with_reducible refine (hlw.out).mono ?_); rintro e w' ⟨rfl, rfl⟩)
                all_goals (go_ret2; exact ⟨PuIn.bad (Hnum.out.trans HF.out), Hbl.out⟩)
            · clear hlet
              go_wp2_with (go_at_call 155; (with_reducible refine (hlw.out).mono ?_); rintro e w' ⟨rfl, rfl⟩)
              all_goals (go_ret2; exact ⟨PuIn.bad (Hnum.out.trans HF.out), Hbl.out⟩)
    · have hkk : k = t.size := by omega
      subst hkk
      have hF : num16 0 bs = some acc := by
        rw [hdec, List.drop_eq_nil_of_le (by have := HLn.out; omega)]
        unfold num16
        simp only [pval, Option.bind_some]
        rw [if_pos hacc]
      have HF := Lib.hid hF
      subst ha
      clear hdec hacc a0 a1 hF
      go_wp2_with fail
      go_ret2
      exact ⟨Or.inl ⟨acc, Hnum.out.trans HF.out, rfl⟩, Hbl.out⟩
end Go.Proofs.YtbiglifngfgffaaGreatDoor

/- strconv.ParseUint: of base 16 and 64 bits, of base 10 and 64 or 8 bits. -/
namespace Go.Proofs.YtbiglifngfgffaaGreatDoor
open Go.RowKit

def PuGot (base B : Nat) (l : List UInt8) (w : World) (r : Ending) (w' : World) : Prop := PuRes base B l r ∧ Below w.heap.size w w'
theorem toErr_syntax {w : World} (env : Env w) (fn s : ByteArray) (base bits : Int) (hs : s.size ≤ 281474976710656) : Calls Tryz.prog 144 #[.string fn, .string s, .int .i64 base, .int .i64 bits, .iface 216 (.int .i64 2)] w fun e w' => (∃ (tp : TypeId) (p : Value), e = .returned (.iface tp p)) ∧ Below w.heap.size w w' := by
  obtain ⟨tp, p, hv⟩ := env.es
  have := AnyPu.strconv_toError_syntax (P := Tryz.prog) (ρ := Tryz.laysPu14_ren) { Tryz.laysPu14 with } fn s base bits (.iface tp p) w hs hv (Or.inr ⟨tp, p, rfl⟩)
  exact this.mono fun e w' ⟨N, he, _, _, hb⟩ => ⟨⟨_, _, he⟩, hb⟩
theorem toErr_range {w : World} (env : Env w) (fn s : ByteArray) (base bits : Int) (hs : s.size ≤ 281474976710656) : Calls Tryz.prog 144 #[.string fn, .string s, .int .i64 base, .int .i64 bits, .iface 216 (.int .i64 1)] w fun e w' => (∃ (tp : TypeId) (p : Value), e = .returned (.iface tp p)) ∧ Below w.heap.size w w' := by
  obtain ⟨tp, p, hv⟩ := env.er
  have := AnyPu.strconv_toError_range (P := Tryz.prog) (ρ := Tryz.laysPu14_ren) { Tryz.laysPu14 with } fn s base bits (.iface tp p) w hs hv (Or.inr ⟨tp, p, rfl⟩)
  exact this.mono fun e w' ⟨N, he, _, _, hb⟩ => ⟨⟨_, _, he⟩, hb⟩

set_option maxHeartbeats 1000000 in
theorem pu16 {w : World} (env : Env w) (t : ByteArray) (hs : t.size ≤ 4000000) : Calls Tryz.prog 125 #[.string t, .int .i64 16, .int .i64 64] w (PuGot 16 18446744073709551616 t.data.toList w) := by
  have H := Lib.hid (pu16_in t (by omega) w)
  have Henv := Lib.hid env
  clear env
  obtain ⟨bs, hL⟩ : ∃ bs, bs = t.data.toList := ⟨_, rfl⟩
  rw [← hL] at H ⊢
  clear hL
  go_enter Tryz.func125, Tryz.ntmps125
  go_wp2_with fail
  go_at_call 143
  refine H.out.mono ?_
  rintro e w1 ⟨⟨n, hn, rfl⟩ | ⟨hn, rfl | rfl⟩, hb⟩
  · have Hn := Lib.hid hn
    have Hb := Lib.hid hb
    clear hn hb
    go_wp2_with fail
    go_ret2
    exact ⟨Or.inl ⟨n, Hn.out, rfl⟩, Hb.out⟩
  · have Hn := Lib.hid hn
    have Hb := Lib.hid hb
    clear hn hb
    have HT := Lib.hid (toErr_syntax (Henv.out.below Hb.out) ⟨#[80, 97, 114, 115, 101, 85, 105, 110, 116]⟩ t 16 64 (by omega))
    go_wp2_with (go_at_call 144; (with_reducible refine HT.out.mono ?_); rintro e w2 ⟨⟨tp, p, rfl⟩, hb2⟩; have Hb2 := Lib.hid (after Hb.out hb2); clear hb2)
    go_ret2
    exact ⟨Or.inr ⟨Hn.out, 0, tp, p, by decide, rfl⟩, Hb2.out⟩
  · have Hn := Lib.hid hn
    have Hb := Lib.hid hb
    clear hn hb
    have HT := Lib.hid (toErr_range (Henv.out.below Hb.out) ⟨#[80, 97, 114, 115, 101, 85, 105, 110, 116]⟩ t 16 64 (by omega))
    go_wp2_with (go_at_call 144; (with_reducible refine HT.out.mono ?_); rintro e w2 ⟨⟨tp, p, rfl⟩, hb2⟩; have Hb2 := Lib.hid (after Hb.out hb2); clear hb2)
    go_ret2
    exact ⟨Or.inr ⟨Hn.out, 18446744073709551615, tp, p, by decide, rfl⟩, Hb2.out⟩

theorem pu10_64 {w : World} (env : Env w) (t : ByteArray) (hs : t.size ≤ 4000000) : Calls Tryz.prog 125 #[.string t, .int .i64 10, .int .i64 64] w (PuGot 10 18446744073709551616 t.data.toList w) := by
  have hn := num1_B (B := 64) (by decide) t.data.toList
  rcases h : Lib.parseUintB 64 t.data.toList with u | _ | _
  · rw [h] at hn
    refine (Tryz.strconv_ParseUint_10_at64_ok t (by omega) u h w).mono ?_
    rintro e w' ⟨rfl, hw⟩
    refine ⟨Or.inl ⟨u, hn, rfl⟩, ?_⟩
    rcases hw with rfl | rfl
    · exact Below.refl _ _
    · exact Lib.bytesWorld_below _ _ _
  · rw [h] at hn
    obtain ⟨tp, p, hv⟩ := env.es
    refine (Any.strconv_ParseUint_10_at64_syntax Tryz.laysPu14 t (by omega) h (.iface tp p) w hv (Or.inr ⟨tp, p, rfl⟩)).mono ?_
    rintro e w' ⟨N, rfl, _, _, hb⟩
    exact ⟨Or.inr ⟨hn, 0, _, _, by decide, rfl⟩, hb⟩
  · rw [h] at hn
    obtain ⟨tp, p, hv⟩ := env.er
    refine (Tryz.strconv_ParseUint_10_at64_range t (by omega) h (.iface tp p) w hv (Or.inr ⟨tp, p, rfl⟩)).mono ?_
    rintro e w' ⟨N, rfl, _, _, hb⟩
    exact ⟨Or.inr ⟨hn, 18446744073709551615, _, _, by decide, rfl⟩, hb⟩
theorem pu10_8 {w : World} (env : Env w) (t : ByteArray) (hs : t.size ≤ 4000000) : Calls Tryz.prog 125 #[.string t, .int .i64 10, .int .i64 8] w (PuGot 10 256 t.data.toList w) := by
  have hn := num1_B (B := 8) (by decide) t.data.toList
  rcases h : Lib.parseUintB 8 t.data.toList with u | _ | _
  · rw [h] at hn
    refine (Tryz.strconv_ParseUint_10_at8_ok t (by omega) u h w).mono ?_
    rintro e w' ⟨rfl, hw⟩
    refine ⟨Or.inl ⟨u, hn, rfl⟩, ?_⟩
    rcases hw with rfl | rfl
    · exact Below.refl _ _
    · exact Lib.bytesWorld_below _ _ _
  · rw [h] at hn
    obtain ⟨tp, p, hv⟩ := env.es
    refine (Any.strconv_ParseUint_10_at8_syntax Tryz.laysPu14 t (by omega) h (.iface tp p) w hv (Or.inr ⟨tp, p, rfl⟩)).mono ?_
    rintro e w' ⟨N, rfl, _, _, hb⟩
    exact ⟨Or.inr ⟨hn, 0, _, _, by decide, rfl⟩, hb⟩
  · rw [h] at hn
    obtain ⟨tp, p, hv⟩ := env.er
    refine (Tryz.strconv_ParseUint_10_at8_range t (by omega) h (.iface tp p) w hv (Or.inr ⟨tp, p, rfl⟩)).mono ?_
    rintro e w' ⟨N, rfl, _, _, hb⟩
    exact ⟨Or.inr ⟨hn, 255, _, _, by decide, rfl⟩, hb⟩
end Go.Proofs.YtbiglifngfgffaaGreatDoor

/- strconv.FormatUint of base 16: the walk. -/
namespace Go.Proofs.YtbiglifngfgffaaGreatDoor
open Go.RowKit

theorem tz64 {w : World} (h : w.cell? ⟨7, 15, none⟩ = some (.int .u8 4)) : Calls Tryz.prog 162 #[.int .u64 16] w fun e w' => e = .returned (.int .i64 4) ∧ w = w' := by
  have e1 : IntKind.u64.wrap (bits BinOp.and IntKind.u64 16 (IntKind.u64.wrap (-16)) * 285870213051353865) / 288230376151711744 = 15 := by kernel_rfl
  go_enter Tryz.func162, Tryz.ntmps162
  go_wp2_with fail
  go_ret
  exact ⟨rfl, rfl⟩
theorem tz_ {w : World} (h : w.cell? ⟨7, 15, none⟩ = some (.int .u8 4)) : Calls Tryz.prog 151 #[.int .u64 16] w fun e w' => e = .returned (.int .i64 4) ∧ w = w' := by
  have H := Lib.hid h
  clear h
  go_enter Tryz.func151, Tryz.ntmps151
  go_wp2_with (go_at_call 162; refine (tz64 H.out).mono ?_; rintro e wf ⟨rfl, rfl⟩)
  go_ret
  exact ⟨rfl, rfl⟩
theorem pow2_ {w : World} : Calls Tryz.prog 150 #[.int .i64 16] w fun e w' => e = .returned (.bool true) ∧ w = w' := by
  go_enter Tryz.func150, Tryz.ntmps150
  go_wp2_with fail
  go_ret
  exact ⟨rfl, rfl⟩

/- The row of 65 bytes: the last ones are t. -/
structure HexRow (w : World) (g : Nat) (t : List UInt8) : Prop where
  row : ∃ cs : Array Value, Blk w g 210 cs ∧ cs.size = 65 ∧ (∀ i, i < 65 → ∃ v, cs[i]? = some v) ∧ ∀ j (hj : j < t.length), cs[65 - t.length + j]? = some (.int .u8 ((t[j]'hj).toNat : Int))
theorem HexRow.cell {w : World} {g : Nat} {t : List UInt8} (h : HexRow w g t) (i : Nat) (hi : i < 65) : ∃ v, w.cell? ⟨g, i, none⟩ = some v := by
  obtain ⟨cs, hb, _, ha, _⟩ := h.row
  obtain ⟨v, hv⟩ := ha i hi
  exact ⟨v, (hb.cell i).trans hv⟩
theorem HexRow.frozen {w : World} {g : Nat} {t : List UInt8} (h : HexRow w g t) (i : Nat) : w.frozen? ⟨g, i, none⟩ = false := by
  obtain ⟨cs, hb, _⟩ := h.row
  exact hb.frozen i
theorem HexRow.put {w : World} {g : Nat} {t : List UInt8} (h : HexRow w g t) (ht : t.length < 65) (c : UInt8) : HexRow (w.setCell ⟨g, 64 - t.length, none⟩ (.int .u8 (c.toNat : Int))) g (c :: t) := by
  obtain ⟨cs, hb, hs, ha, hc⟩ := h.row
  refine ⟨_, hb.set_ _ _, by simp [hs], fun i hi => ?_, fun j hj => ?_⟩
  · rw [Array.getElem?_setIfInBounds]
    split
    · exact ⟨_, by rw [if_pos (by omega)]⟩
    · exact ha i hi
  · rw [List.length_cons] at hj ⊢
    rw [Array.getElem?_setIfInBounds]
    cases j with
    | zero => rw [if_pos (by omega), if_pos (by omega)]; rfl
    | succ j =>
      rw [if_neg (by omega), List.getElem_cons_succ]
      have := hc j (by omega)
      rw [← this]
      congr 1
      omega
theorem hexL_step {x y : Nat} {t : List UInt8} (h : hexL x = hexL y ++ t) (hy : 16 ≤ y) : hexL x = hexL (y / 16) ++ (hexd (y % 16) :: t) := by
  rw [h]
  conv => lhs; arg 1; unfold hexL
  rw [dif_neg (by omega), List.append_assoc]
  rfl
theorem hexL_last {x y : Nat} {t : List UInt8} (h : hexL x = hexL y ++ t) (hy : y < 16) : hexL x = hexd y :: t := by
  rw [h]
  conv => lhs; arg 1; unfold hexL
  rw [dif_pos hy]
  rfl
theorem digits36_at (d : Nat) (h : d < 16) : ((⟨#[48, 49, 50, 51, 52, 53, 54, 55, 56, 57, 97, 98, 99, 100, 101, 102, 103, 104, 105, 106, 107, 108, 109, 110, 111, 112, 113, 114, 115, 116, 117, 118, 119, 120, 121, 122]⟩ : ByteArray)[d]'(Nat.lt_trans h (by decide))).toNat = (hexd d).toNat := by
  have : ∀ d : Fin 16, ((⟨#[48, 49, 50, 51, 52, 53, 54, 55, 56, 57, 97, 98, 99, 100, 101, 102, 103, 104, 105, 106, 107, 108, 109, 110, 111, 112, 113, 114, 115, 116, 117, 118, 119, 120, 121, 122]⟩ : ByteArray)[d.1]'(Nat.lt_trans d.2 (by decide))).toNat = (hexd d.1).toNat := by decide
  exact this ⟨d, h⟩
theorem slice65 (g n : Nat) (hn : n ≤ 64) (W : World) : (Instr.sliceAt 210 (.pointer (some ⟨g, 0, none⟩)) (some (.int .i64 ((65 : Int) - (n : Int) - 1))) none none).run Tryz.prog W = .ok (.slice (some ⟨g, 64 - n, none⟩) (n + 1) (n + 1)) W := by
  have ha : Tryz.prog.arrayLen 210 = 65 := by kernel_rfl
  have hu : Tryz.prog.underlying 210 = some (.array (Tryz.prog.arrayLen 210) (Tryz.prog.elem 210)) := by kernel_rfl
  have hs : (sizeOf (Tryz.prog.elem 210)).run Tryz.prog W = .ok 1 W := by kernel_rfl
  rw [run_sliceAt_array_l W _ _ hu .i64 ((65 : Int) - (n : Int) - 1) (by omega) (by rw [ha]; omega), hs, ha]
  have e : ((65 : Int) - (n : Int) - 1).toNat = 64 - n := by omega
  rw [e]
  show Result.ok (Value.slice (some (if 65 = 64 - n then (⟨g, 0, none⟩ : Addr) else (⟨g, 0, none⟩ : Addr).add ((64 - n) * 1))) (65 - (64 - n)) (65 - (64 - n))) W = _
  rw [if_neg (by omega), show 65 - (64 - n) = n + 1 by omega]
  have e2 : (⟨g, 0, none⟩ : Addr).add ((64 - n) * 1) = ⟨g, 64 - n, none⟩ := by unfold Addr.add; split <;> simp_all
  rw [e2]

set_option maxHeartbeats 1000000 in
set_option maxRecDepth 100000 in
theorem bits16 {w : World} (x : Nat) (hx : x < 65536) (h : w.cell? ⟨7, 15, none⟩ = some (.int .u8 4)) : Calls Tryz.prog 135 #[.slice none 0 0, .int .u64 (x : Int), .int .i64 16, .bool false, .bool false] w fun e w' => e = .returned (.tuple #[.slice none 0 0, .string ⟨(hexL x).toArray⟩]) ∧ Below w.heap.size w w' := by
  have H := Lib.hid (h : w.cell? ⟨7, 15, none⟩ = some (.int .u8 4))
  have h5 : 7 < w.heap.size := World.block_lt_of_cell? w _ h
  have TZ := fun o => tz_ (w := w.alloc o) ((((Below.refl w.heap.size w).alloc (Nat.le_refl _) o).cell (p := ⟨7, 15, none⟩) h5).trans h)
  clear h
  go_enter Tryz.func135, Tryz.ntmps135
  go_wp2_with (first
    | (go_at_call 150; refine pow2_.mono ?_; rintro e wf ⟨rfl, rfl⟩)
    | (go_at_call 151; refine (TZ _).mono ?_; rintro e wf ⟨rfl, rfl⟩))
  go_loopw [1, 13] (fun u i wr => ∃ (y : Nat) (t : List UInt8), t.length ≤ 15 ∧ y < 16 ^ (16 - t.length) ∧ u = .int .u64 (y : Int) ∧ i = .int .i64 ((65 : Int) - (t.length : Int)) ∧ RowKit.Hid (hexL x = hexL y ++ t) ∧ HexRow wr w.heap.size t ∧ Below w.heap.size w wr) (fun u _ _ => (intOf u).toNat)
  case atStart =>
    have hz : (Tryz.zeroCells210 : Array Value).size = 65 := by kernel_rfl
    exact ⟨x, [], by decide, by simp; omega, rfl, rfl, Lib.hid (by simp), ⟨⟨Tryz.zeroCells210, Blk.new _ _ _, hz, fun i hi => ⟨_, Array.getElem?_eq_getElem (by rw [hz]; exact hi)⟩, fun j hj => absurd hj (by simp)⟩⟩, (Below.refl _ _).alloc (Nat.le_refl _) _⟩
  case round =>
    obtain ⟨y, t, ht, hy, rfl, rfl, hx, hr, hB⟩ := hrel
    have hyt : y < 18446744073709551616 := Nat.lt_of_lt_of_le hy (Nat.le_trans (Nat.pow_le_pow_right (by decide) (show 16 - t.length ≤ 16 by omega)) (by decide))
    have hput := fun c => hr.put (by omega : t.length < 65) c
    obtain ⟨v, hv⟩ := hr.cell (64 - t.length) (by omega)
    have hf := hr.frozen (64 - t.length)
    have e1 : ((65 : Int) - (t.length : Int) - 1).toNat = 64 - t.length := by omega
    have h0 : (0 : Int) ≤ (65 : Int) - (t.length : Int) - 1 := by omega
    have hlt := (show w.heap.size < wr.heap.size by obtain ⟨cs, hb, _⟩ := hr.row; exact hb.lt)
    by_cases hc : 16 ≤ y
    · have hstep := hexL_step hx.out hc
      have Hstep := Lib.hid hstep
      clear hstep
      have hpow : y / 16 < 16 ^ (16 - (t.length + 1)) := by
        have : 16 ^ (16 - t.length) = 16 ^ (16 - (t.length + 1)) * 16 := by
          rw [← Nat.pow_succ]
          congr 1
          omega
        omega
      have hn : t.length + 1 ≤ 15 := by
        rcases Nat.lt_or_ge t.length 15 with h | h
        · omega
        · have : t.length = 15 := by omega
          rw [this] at hy
          omega
      have ea : bits .and .u64 (y : Int) 15 = ((y % 16 : Nat) : Int) := by
        have h := u64_and_nat y 15 hyt (by decide)
        rw [show ((15 : Nat) : Int) = 15 from rfl] at h
        rw [h, show (15 : Nat) = 2 ^ 4 - 1 from rfl, Nat.and_two_pow_sub_one_eq_mod]
      have hm : y % 16 < 16 := Nat.mod_lt _ (by decide)
      have hd := digits36_at (y % 16) hm
      have hP := hput (hexd (y % 16))
      rw [← hd] at hP
      have Hput := Lib.hid hP
      have HB := Lib.hid hB
      have Hpow := Lib.hid hpow
      have Hx := Lib.hid hx
      clear hx hd hP hput hB hr hy hpow
      go_wp2_with fail
      go_roundw
      case rel =>
        exact ⟨y / 16, hexd (y % 16) :: t, by simpa using hn, Hpow.out, by go_num, by rw [List.length_cons]; congr 1; omega, Hstep, Hput.out, HB.out.setCell (Nat.le_refl _) _⟩
      case measure => simp [intOf]; omega
    · have hlast := hexL_last hx.out (by omega)
      have Hlast := Lib.hid hlast
      clear hlast
      have hm : y < 16 := by omega
      have hd := digits36_at y hm
      have hP := hput (hexd y)
      have hback := run_convert_bytes_back (P := Tryz.prog) (wr.setCell ⟨w.heap.size, 64 - t.length, none⟩ (.int .u8 ((hexd y).toNat : Int))) 40 9 5 ⟨w.heap.size, 64 - t.length, none⟩ (t.length + 1) (hexd y :: t) Tryz.underlying40 Tryz.underlying5 Tryz.underlying9 (fun j hj => by
        obtain ⟨cs, hb, hs, ha, hcc⟩ := hP.row
        have e : (⟨w.heap.size, 64 - t.length, none⟩ : Addr).add j = ⟨w.heap.size, 64 - t.length + j, none⟩ := by unfold Addr.add; split <;> simp_all
        rw [e]
        refine (hb.cell _).trans ?_
        have := hcc j hj
        rw [List.length_cons] at this
        rw [← this]
        congr 1
        omega)
      rw [← hd] at hP hback
      have Hput := Lib.hid hP
      have HB := Lib.hid hB
      clear hx hd hP hput hB hr hy
      have hsl := slice65 w.heap.size t.length (by omega)
      rw [List.length_cons] at hback
      go_wp2_with fail
      go_ret2
      exact ⟨show Ending.returned (.tuple #[.slice none 0 0, .string ⟨(hexd y :: t).toArray⟩]) = _ by rw [Hlast.out], HB.out.setCell (Nat.le_refl _) _⟩
theorem fmt16_ {w : World} (x : Nat) (hx : x < 65536) (h : w.cell? ⟨7, 15, none⟩ = some (.int .u8 4)) : Calls Tryz.prog 118 #[.int .u64 (x : Int), .int .i64 16] w fun e w' => e = .returned (.string ⟨(hexL x).toArray⟩) ∧ Below w.heap.size w w' := by
  have H := Lib.hid (bits16 x hx h)
  clear h
  go_enter Tryz.func118, Tryz.ntmps118
  go_wp2_with (go_at_call 135; refine H.out.mono ?_; rintro e wf ⟨rfl, hb⟩; have Hb := Lib.hid hb; clear hb)
  go_ret
  exact ⟨rfl, Hb.out⟩
theorem fmt16 {w : World} (x : Nat) (hx : x < 65536) (h : w.cell? ⟨7, 15, none⟩ = some (.int .u8 4)) : Calls Tryz.prog 86 #[.int .u64 (x : Int), .int .i64 16] w fun e w' => e = .returned (.string ⟨(hexL x).toArray⟩) ∧ Below w.heap.size w w' := by
  have H := Lib.hid (fmt16_ x hx h)
  clear h
  go_enter Tryz.func86, Tryz.ntmps86
  go_wp2_with (go_at_call 118; refine H.out.mono ?_; rintro e wf ⟨rfl, hb⟩; have Hb := Lib.hid hb; clear hb)
  go_ret
  exact ⟨rfl, Hb.out⟩
end Go.Proofs.YtbiglifngfgffaaGreatDoor

/- Texts of addresses, the program's: numbers joined; an address of IPv4; the eight numbers of IPv6: the walks. -/
namespace Go.Proofs.YtbiglifngfgffaaGreatDoor
open Go.RowKit

theorem info_str : (Tryz.prog.info? 9).map (fun i => (i.zero, i.size, i.bytes)) = some (some (.string ByteArray.empty), 1, 16) := by kernel_rfl
theorem own_below {w w' : World} {base size n : Nat} {e : TypeId} {v : Value} {xs : List Value} (h : w.ownsRow base e size v n xs) (hb : Below w.heap.size w w') : w'.ownsRow base e size v n xs :=
  h.kept (row := none) ⟨hb.os, hb.tape, hb.output, hb.size, fun k hk _ => hb.block k hk⟩ (by
    cases hv : v.ownBlock with
    | none => exact Or.inl rfl
    | some k => exact Or.inr (by simp))
/- The texts that are owned. -/
def strs (L : List (List UInt8)) : List ByteArray := L.map fun l => ⟨l.toArray⟩
theorem strs_lists (L : List (List UInt8)) : (strs L).map (·.data.toList) = L := by
  unfold strs
  rw [List.map_map]
  conv => rhs; rw [← List.map_id L]
  exact List.map_congr_left fun l _ => by simp
theorem own_form {w : World} {base n : Nat} {e : TypeId} {v : Value} {xs : List Value} (h : w.ownsRow base e 1 v (n + 1) xs) : ∃ g cap, v = .slice (some ⟨g, 0, none⟩) (n + 1) cap := by
  rcases h.2 with ⟨_, h⟩ | ⟨g, cap, _, h, _⟩
  · omega
  · exact ⟨g, cap, h⟩
/- strings.Join of what is owned. -/
theorem join_own {w : World} {base : Nat} {v : Value} {L : List (List UInt8)} (c : UInt8) (h : w.ownsRow base 9 1 v L.length ((strs L).map Value.string)) (hl : L.length ≤ 1000) (hj : (Lib.join L [c]).length ≤ 4000000) : Calls Tryz.prog 20 #[v, .string ⟨#[c]⟩] w fun r w' => r = .returned (.string ⟨(Lib.join L [c]).toArray⟩) ∧ Below w.heap.size w w' := by
  have hl2 : (strs L).length = L.length := by simp [strs]
  rcases h.2 with ⟨rfl, hn⟩ | ⟨g, cap, cur, rfl, hg, hh, hcap, _, hsz, htake⟩
  · have : L = [] := List.eq_nil_of_length_eq_zero hn
    subst this
    exact (Tryz.strings_Join_none none 0 ⟨#[c]⟩ w).mono fun r w' hq => ⟨hq.1.trans rfl, by obtain ⟨_, hb⟩ := hq; first | exact hb | (subst hb; exact Below.refl _ _)⟩
  · have hcell := fun j hj => h.cellAt (g := g) (cap := cap) j hj
    have := Tryz.strings_Join g 0 cap (strs L) ⟨#[c]⟩ w (fun j x hx => by
      have hj : j < (strs L).length := (List.getElem?_eq_some_iff.1 hx).1
      rw [Nat.zero_add]
      refine (hcell j (by omega)).trans ?_
      rw [List.getElem?_map, hx]
      rfl) (h.lt g rfl).2 (by omega) (by omega) (by rw [strs_lists]; simpa using (show (Lib.join L [c]).length ≤ 140737488355328 by omega))
    rw [hl2, strs_lists] at this
    exact this
end Go.Proofs.YtbiglifngfgffaaGreatDoor
