/- Joined out of: PuA PuB PuC NuA PfA. -/
import Derived.Test.YtomndcjgdfhmbaaGreatDoorJab
import Derived.Lib.ParseIntB
import Derived.Test.YtomndcjgdfhmbaaGreatDoorJac
import Derived.Test.YtomndcjgdfhmbaaGreatDoorShelf
import Derived.Lib.ConvBytes
import Derived.Lib.AtoiErrMem
import Derived.Lib.Strings
import Derived.Laws.BitsAllLaws
import Derived.Lib.SplitLaws
import Derived.Deep.Onto
set_option linter.unusedVariables false
set_option linter.unusedSimpArgs false

/- Numbers read off texts: the plain law against the library's own. -/
namespace Go.Proofs.YtomndcjgdfhmbaaGreatDoor

/- What a parser answers: a number and no error, or an error. -/
def PuRes (base B : Nat) (l : List UInt8) (r : Ending) : Prop := (∃ n : Nat, num1 base B l = some n ∧ r = .returned (.tuple #[.int .u64 (n : Int), .nilIface])) ∨ (num1 base B l = none ∧ ∃ (n : Nat) (tp : TypeId) (p : Value), n < 18446744073709551616 ∧ r = .returned (.tuple #[.int .u64 (n : Int), .iface tp p]))

theorem dval10 (c : UInt8) : dval 10 c = if 48 ≤ c.toNat ∧ c.toNat ≤ 57 then some (c.toNat - 48) else none := by
  unfold dval
  split
  · rw [if_pos (by omega)]
  · split
    · rw [if_neg (by omega)]
    · split
      · rw [if_neg (by omega)]
      · rfl
theorem pval_none_lt {dv : UInt8 → Option Nat} {base B acc : Nat} {l : List UInt8} (hb : 1 ≤ base) (h : B ≤ acc) : (pval dv base acc l).bind (fun n => if n < B then some n else none) = none := by
  cases e : pval dv base acc l with
  | none => rfl
  | some n =>
    have := pval_ge dv base hb l acc n e
    simp only [Option.bind_some]
    rw [if_neg (by omega)]
/- The library's reading at a bound M = B - 1. -/
theorem pval_M {M : Nat} (hM : M < 18446744073709551616) : ∀ (l : List UInt8) (acc : Nat), acc ≤ M → (match Lib.parseUintM M acc l with
    | .ok u => (pval (dval 10) 10 acc l).bind (fun n => if n < M + 1 then some n else none) = some u
    | _ => (pval (dval 10) 10 acc l).bind (fun n => if n < M + 1 then some n else none) = none) := by
  intro l
  induction l with
  | nil => intro acc h; simp only [Lib.parseUintM, pval, Option.bind_some]; rw [if_pos (by omega)]
  | cons c r ih =>
    intro acc h
    unfold Lib.parseUintM pval
    rw [dval10]
    by_cases hd : 48 ≤ c.toNat ∧ c.toNat ≤ 57
    · rw [if_pos hd, if_pos hd]
      simp only
      by_cases hc : 1844674407370955162 ≤ acc
      · rw [if_pos hc]
        exact pval_none_lt (by decide) (by omega)
      · rw [if_neg hc]
        by_cases hm : M < acc * 10 + (c.toNat - 48)
        · rw [if_pos hm]
          exact pval_none_lt (by decide) (by omega)
        · rw [if_neg hm]
          exact ih _ (by omega)
    · rw [if_neg hd, if_neg hd]
      rfl
theorem num1_B {B : Nat} (hB : B ≤ 64) (l : List UInt8) : (match Lib.parseUintB B l with
    | .ok u => num1 10 (2 ^ B) l = some u
    | _ => num1 10 (2 ^ B) l = none) := by
  have hp : 0 < 2 ^ B := Nat.pow_pos (by decide)
  have hl : 2 ^ B ≤ 2 ^ 64 := Nat.pow_le_pow_right (by decide) hB
  unfold Lib.parseUintB num1
  by_cases h : l = []
  · rw [if_pos h, if_pos h]
  · rw [if_neg h, if_neg h]
    have := pval_M (M := 2 ^ B - 1) (by omega) l 0 (by omega)
    rw [show 2 ^ B - 1 + 1 = 2 ^ B by omega] at this
    exact this
end Go.Proofs.YtomndcjgdfhmbaaGreatDoor

/- strconv.ParseUint of base 16 and 64 bits: the walk; of base 10 off the shelf. -/
namespace Go.Proofs.YtomndcjgdfhmbaaGreatDoor
open Go.RowKit

def low32 (c : Nat) : Nat := c ||| 32
theorem low32_lt (c : Nat) (h : c < 256) : low32 c < 256 := Nat.or_lt_two_pow (n := 8) h (by decide)
theorem low32_dval : ∀ c : Fin 256, ¬ (48 ≤ c.1 ∧ c.1 ≤ 57) → dval 16 (UInt8.ofNat c.1) = if 97 ≤ low32 c.1 ∧ low32 c.1 ≤ 102 then some (low32 c.1 - 97 + 10) else none := by decide +kernel
theorem dval_letter (c : UInt8) (h : ¬ (48 ≤ c.toNat ∧ c.toNat ≤ 57)) : dval 16 c = if 97 ≤ low32 c.toNat ∧ low32 c.toNat ≤ 102 then some (low32 c.toNat - 97 + 10) else none := by
  have := low32_dval ⟨c.toNat, c.toNat_lt⟩ h
  rwa [UInt8.ofNat_toNat] at this
theorem dval_digit (c : UInt8) (h : 48 ≤ c.toNat ∧ c.toNat ≤ 57) : dval 16 c = some (c.toNat - 48) := by
  unfold dval
  rw [if_pos h, if_pos (by omega)]
theorem lower_any (c : Nat) (hc : c < 256) (w : World) : Calls Tryz.prog 100 #[.int .u8 (c : Int)] w fun e w' => e = .returned (.int .u8 (low32 c : Int)) ∧ w = w' := by
  have e1 : bits .or .u8 (c : Int) 32 = (low32 c : Int) := u8_or_nat c 32 hc (by decide)
  go_enter Tryz.func100, Tryz.ntmps100
  go_wp2_with fail
  go_ret
  exact ⟨rfl, rfl⟩

/- What the inner one answers: a number, or which error. -/
def PuIn (l : List UInt8) (r : Ending) : Prop := (∃ n : Nat, num1 16 18446744073709551616 l = some n ∧ r = .returned (.tuple #[.int .u64 (n : Int), .nilIface])) ∨ (num1 16 18446744073709551616 l = none ∧ ((r = .returned (.tuple #[.int .u64 0, .iface 131 (.int .i64 2)])) ∨ (r = .returned (.tuple #[.int .u64 18446744073709551615, .iface 131 (.int .i64 1)]))))
theorem PuIn.bad {l : List UInt8} (h : num1 16 18446744073709551616 l = none) : PuIn l (.returned (.tuple #[.int .u64 0, .iface 131 (.int .i64 2)])) := Or.inr ⟨h, Or.inl rfl⟩
theorem PuIn.big {l : List UInt8} (h : num1 16 18446744073709551616 l = none) : PuIn l (.returned (.tuple #[.int .u64 18446744073709551615, .iface 131 (.int .i64 1)])) := Or.inr ⟨h, Or.inr rfl⟩
def num16 (acc : Nat) (l : List UInt8) : Option Nat := (pval (dval 16) 16 acc l).bind fun n => if n < 18446744073709551616 then some n else none
theorem num16_big {acc : Nat} {l : List UInt8} (h : 18446744073709551616 ≤ acc) : num16 acc l = none := pval_none_lt (by decide) h
theorem num16_cons (acc : Nat) (c : UInt8) (r : List UInt8) : num16 acc (c :: r) = match dval 16 c with
    | none => none
    | some d => num16 (acc * 16 + d) r := by
  unfold num16
  conv => lhs; arg 1; unfold pval
  cases dval 16 c <;> rfl

set_option maxHeartbeats 8000000 in
set_option maxRecDepth 100000 in
theorem pu16_in (t : ByteArray) (hmax : t.size ≤ 9223372036854775806) (w : World) : Calls Tryz.prog 81 #[.string t, .int .i64 16, .int .i64 64] w fun e w' => PuIn t.data.toList e ∧ Below w.heap.size w w' := by
  by_cases hne : t.size = 0
  · have he : t = ⟨#[]⟩ := by
      apply ByteArray.ext
      exact Array.eq_empty_of_size_eq_zero hne
    rw [he]
    have hb := Below.refl w.heap.size w
    go_enter Tryz.func81, Tryz.ntmps81
    go_wp2_with fail
    go_ret2
    exact ⟨PuIn.bad rfl, hb⟩
  have hemp : t.toList.isEmpty = false := by
    rw [← decide_eq_emptyBytes]
    exact decide_eq_false (fun h => hne (by rw [h]; rfl))
  have hcv := Lib.run_convert_string_bytes (P := Tryz.prog) w 9 49 5 t Tryz.underlying9 Tryz.underlying49 Tryz.underlying5
  have hB : ∀ j, j < t.size → (Lib.bytesWorld w 5 t).cell? ⟨w.heap.size, j, none⟩ = some (.int .u8 (t.data.toList.getD j 0).toNat) := fun j hj => Lib.bytesWorld_cell w 5 t j hj
  have hbl := Lib.bytesWorld_below w 5 t
  obtain ⟨W1, hW1⟩ : ∃ W1, W1 = Lib.bytesWorld w 5 t := ⟨_, rfl⟩
  rw [← hW1] at hcv hB hbl
  clear hW1
  have Hbl := Lib.hid hbl
  clear hbl
  obtain ⟨bs, hL⟩ : ∃ bs, bs = t.data.toList := ⟨_, rfl⟩
  have hLn : bs.length = t.size := by rw [hL, Lib.size_eq]
  rw [← hL] at hB ⊢
  have hbs : bs ≠ [] := fun e => hne (by rw [← hLn, e]; rfl)
  clear hL
  have hnum : num1 16 18446744073709551616 bs = num16 0 bs := by
    unfold num1 num16
    rw [if_neg hbs]
  have Hnum := Lib.hid hnum
  have HBc := Lib.hid hB
  have HLn := Lib.hid hLn
  clear hnum hB hLn hbs hne
  have hmv : IntKind.u64.wrap (IntKind.u64.wrap 18446744073709551616 - 1) = 18446744073709551615 := by
    rw [IntKind.wrap_u64, IntKind.wrap_u64]
    decide
  go_enter Tryz.func81, Tryz.ntmps81
  go_wp2_with fail
  go_loop [12, 13, 101] (fun vu vn vi => ∃ (k acc : Nat) (a : Int), vu = .bool false ∧ vn = .int .u64 a ∧ vi = .int .i64 k ∧ k ≤ t.size ∧ Hid (a = (acc : Int) ∧ acc < 18446744073709551616 ∧ num16 0 bs = num16 acc (bs.drop k)))
    (fun _ _ vi => t.size - (intOf vi).toNat)
  case atStart => exact ⟨0, 0, 0, rfl, rfl, rfl, by omega, rfl, by omega, rfl⟩
  case round =>
    obtain ⟨k, acc, a, rfl, rfl, rfl, hk, hh⟩ := hrel
    obtain ⟨ha, hacc, hdec⟩ := hh.out
    clear hh
    have a0 : 0 ≤ a := by omega
    have a1 : a < 18446744073709551616 := by omega
    by_cases hkn : k < t.size
    · have hkl : k < bs.length := by have := HLn.out; omega
      have hc := HBc.out k hkn
      have hdrop : bs.drop k = bs[k]'hkl :: bs.drop (k + 1) := List.drop_eq_getElem_cons hkl
      have hget : bs.getD k 0 = bs[k]'hkl := by simp [List.getD, List.getElem?_eq_getElem hkl]
      rw [hdrop, num16_cons] at hdec
      rw [hget] at hc
      generalize bs[k]'hkl = c at hc hdec
      have hc256 : c.toNat < 256 := c.toNat_lt
      have hdd := dval_digit c
      have hdl := dval_letter c
      have hlw := Lib.hid (lower_any c.toNat hc256 W1)
      have hm256 := low32_lt c.toNat hc256
      have h95 : c.toNat = 95 → low32 c.toNat = 127 := fun h => by rw [h]; rfl
      generalize low32 c.toNat = m at hdl hlw hm256 h95
      generalize dval 16 c = D at hdec hdd hdl
      generalize c.toNat = x at hc hc256 hdd hdl hlw h95
      clear hdrop hget
      by_cases hdig : 48 ≤ x ∧ x ≤ 57
      · obtain ⟨hd0, hd1⟩ := hdig
        rw [hdd ⟨hd0, hd1⟩] at hdec
        simp only at hdec
        clear hdd hdl
        by_cases hcut : 1152921504606846976 ≤ acc
        · have hF : num16 0 bs = none := by rw [hdec]; exact num16_big (by omega)
          have icut : 1152921504606846976 ≤ a := by omega
          have HF := Lib.hid hF
          clear hcut hacc hF ha hdec
          go_wp2_with fail
          go_ret2
          exact ⟨PuIn.big (Hnum.out.trans HF.out), Hbl.out⟩
        · have HN : Hid (a * 16 + ((x : Int) - 48) = ((acc * 16 + (x - 48) : Nat) : Int) ∧ acc * 16 + (x - 48) < 18446744073709551616 ∧ num16 0 bs = num16 (acc * 16 + (x - 48)) (bs.drop (k + 1))) := Lib.hid ⟨by omega, by omega, hdec⟩
          have icut : a < 1152921504606846976 := by omega
          have iov : a * 16 + ((x : Int) - 48) < 18446744073709551616 := by omega
          clear hcut hacc hdec ha
          go_wp2_with fail
          refine ⟨⟨k + 1, acc * 16 + (x - 48), a * 16 + ((x : Int) - 48), rfl, (by first | rfl | (congr 1; omega)), (by first | rfl | (congr 1; omega)), by omega, HN⟩, by simp [intOf]; omega⟩
      · rw [hdl hdig] at hdec
        clear hdd hdl
        by_cases hx95 : x = 95
        · have hm127 := h95 hx95
          subst hx95
          subst hm127
          rw [if_neg (by omega)] at hdec
          simp only at hdec
          have HF := Lib.hid hdec
          have hl2 : Calls Tryz.prog 100 #[.int .u8 95] W1 fun e w' => e = .returned (.int .u8 127) ∧ W1 = w' := hlw.out
          have Hl2 := Lib.hid hl2
          have hc2 : W1.cell? ⟨w.heap.size, k, none⟩ = some (.int .u8 95) := hc
          clear hc hdec hacc ha hdig hm256 hc256 h95 hlw hl2
          go_wp2_with (go_at_call 100; (with_reducible refine Hl2.out.mono ?_); rintro e w' ⟨rfl, rfl⟩)
          all_goals (go_ret2; exact ⟨PuIn.bad (Hnum.out.trans HF.out), Hbl.out⟩)
        · have hq95 : ((x : Int) == 95) = false := by simp; omega
          clear h95 hx95
          by_cases hlet : 97 ≤ m ∧ m ≤ 102
          · rw [if_pos hlet] at hdec
            simp only at hdec
            obtain ⟨hm0, hm1⟩ := hlet
            have hm2 : m ≤ 122 := by omega
            by_cases hcut : 1152921504606846976 ≤ acc
            · have hF : num16 0 bs = none := by rw [hdec]; exact num16_big (by omega)
              have icut : 1152921504606846976 ≤ a := by omega
              have HF := Lib.hid hF
              clear hcut hacc hF ha hdec
              go_wp2_with (go_at_call 100; (with_reducible refine (hlw.out).mono ?_); rintro e w' ⟨rfl, rfl⟩)
              all_goals (go_ret2; exact ⟨PuIn.big (Hnum.out.trans HF.out), Hbl.out⟩)
            · have HN : Hid (a * 16 + ((m : Int) - 97 + 10) = ((acc * 16 + (m - 97 + 10) : Nat) : Int) ∧ acc * 16 + (m - 97 + 10) < 18446744073709551616 ∧ num16 0 bs = num16 (acc * 16 + (m - 97 + 10)) (bs.drop (k + 1))) := Lib.hid ⟨by omega, by omega, hdec⟩
              have icut : a < 1152921504606846976 := by omega
              have iov : a * 16 + ((m : Int) - 97 + 10) < 18446744073709551616 := by omega
              clear hcut hacc hdec ha
              go_wp2_with (go_at_call 100; (with_reducible refine (hlw.out).mono ?_); rintro e w' ⟨rfl, rfl⟩)
              all_goals exact ⟨⟨k + 1, acc * 16 + (m - 97 + 10), a * 16 + ((m : Int) - 97 + 10), rfl, (by first | rfl | (congr 1; omega)), (by first | rfl | (congr 1; omega)), by omega, HN⟩, by simp [intOf]; omega⟩
          · rw [if_neg hlet] at hdec
            simp only at hdec
            have HF := Lib.hid hdec
            clear hdec hacc ha
            by_cases hm0 : 97 ≤ m
            · by_cases hm1 : m ≤ 122
              · have hm2 : 102 < m := by omega
                clear hlet
                go_wp2_with (go_at_call 100; (with_reducible refine (hlw.out).mono ?_); rintro e w' ⟨rfl, rfl⟩)
                all_goals (go_ret2; exact ⟨PuIn.bad (Hnum.out.trans HF.out), Hbl.out⟩)
              · clear hlet
                go_wp2_with (go_at_call 100; (with_reducible refine (hlw.out).mono ?_); rintro e w' ⟨rfl, rfl⟩)
                all_goals (go_ret2; exact ⟨PuIn.bad (Hnum.out.trans HF.out), Hbl.out⟩)
            · clear hlet
              go_wp2_with (go_at_call 100; (with_reducible refine (hlw.out).mono ?_); rintro e w' ⟨rfl, rfl⟩)
              all_goals (go_ret2; exact ⟨PuIn.bad (Hnum.out.trans HF.out), Hbl.out⟩)
    · have hkk : k = t.size := by omega
      subst hkk
      have hF : num16 0 bs = some acc := by
        rw [hdec, List.drop_eq_nil_of_le (by have := HLn.out; omega)]
        unfold num16
        simp only [pval, Option.bind_some]
        rw [if_pos hacc]
      have HF := Lib.hid hF
      subst ha
      clear hdec hacc a0 a1 hF
      go_wp2_with fail
      go_ret2
      exact ⟨Or.inl ⟨acc, Hnum.out.trans HF.out, rfl⟩, Hbl.out⟩
end Go.Proofs.YtomndcjgdfhmbaaGreatDoor

/- strconv.ParseUint: of base 16 and 64 bits, of base 10 and 64 or 8 bits. -/
namespace Go.Proofs.YtomndcjgdfhmbaaGreatDoor
open Go.RowKit

def PuGot (base B : Nat) (l : List UInt8) (w : World) (r : Ending) (w' : World) : Prop := PuRes base B l r ∧ Below w.heap.size w w'
theorem toErr_syntax {w : World} (env : Env w) (fn s : ByteArray) (base bits : Int) (hs : s.size ≤ 281474976710656) : Calls Tryz.prog 82 #[.string fn, .string s, .int .i64 base, .int .i64 bits, .iface 131 (.int .i64 2)] w fun e w' => (∃ (tp : TypeId) (p : Value), e = .returned (.iface tp p)) ∧ Below w.heap.size w w' := by
  obtain ⟨tp, p, hv⟩ := env.es
  have := AnyPu.strconv_toError_syntax (P := Tryz.prog) (ρ := Tryz.laysPu14_ren) { Tryz.laysPu14 with } fn s base bits (.iface tp p) w hs hv (Or.inr ⟨tp, p, rfl⟩)
  exact this.mono fun e w' ⟨N, he, _, _, hb⟩ => ⟨⟨_, _, he⟩, hb⟩
theorem toErr_range {w : World} (env : Env w) (fn s : ByteArray) (base bits : Int) (hs : s.size ≤ 281474976710656) : Calls Tryz.prog 82 #[.string fn, .string s, .int .i64 base, .int .i64 bits, .iface 131 (.int .i64 1)] w fun e w' => (∃ (tp : TypeId) (p : Value), e = .returned (.iface tp p)) ∧ Below w.heap.size w w' := by
  obtain ⟨tp, p, hv⟩ := env.er
  have := AnyPu.strconv_toError_range (P := Tryz.prog) (ρ := Tryz.laysPu14_ren) { Tryz.laysPu14 with } fn s base bits (.iface tp p) w hs hv (Or.inr ⟨tp, p, rfl⟩)
  exact this.mono fun e w' ⟨N, he, _, _, hb⟩ => ⟨⟨_, _, he⟩, hb⟩

set_option maxHeartbeats 1000000 in
theorem pu16 {w : World} (env : Env w) (t : ByteArray) (hs : t.size ≤ 1000000) : Calls Tryz.prog 51 #[.string t, .int .i64 16, .int .i64 64] w (PuGot 16 18446744073709551616 t.data.toList w) := by
  have H := Lib.hid (pu16_in t (by omega) w)
  have Henv := Lib.hid env
  clear env
  obtain ⟨bs, hL⟩ : ∃ bs, bs = t.data.toList := ⟨_, rfl⟩
  rw [← hL] at H ⊢
  clear hL
  go_enter Tryz.func51, Tryz.ntmps51
  go_wp2_with fail
  go_at_call 81
  refine H.out.mono ?_
  rintro e w1 ⟨⟨n, hn, rfl⟩ | ⟨hn, rfl | rfl⟩, hb⟩
  · have Hn := Lib.hid hn
    have Hb := Lib.hid hb
    clear hn hb
    go_wp2_with fail
    go_ret2
    exact ⟨Or.inl ⟨n, Hn.out, rfl⟩, Hb.out⟩
  · have Hn := Lib.hid hn
    have Hb := Lib.hid hb
    clear hn hb
    have HT := Lib.hid (toErr_syntax (Henv.out.below Hb.out) ⟨#[80, 97, 114, 115, 101, 85, 105, 110, 116]⟩ t 16 64 (by omega))
    go_wp2_with (go_at_call 82; (with_reducible refine HT.out.mono ?_); rintro e w2 ⟨⟨tp, p, rfl⟩, hb2⟩; have Hb2 := Lib.hid (after Hb.out hb2); clear hb2)
    go_ret2
    exact ⟨Or.inr ⟨Hn.out, 0, tp, p, by decide, rfl⟩, Hb2.out⟩
  · have Hn := Lib.hid hn
    have Hb := Lib.hid hb
    clear hn hb
    have HT := Lib.hid (toErr_range (Henv.out.below Hb.out) ⟨#[80, 97, 114, 115, 101, 85, 105, 110, 116]⟩ t 16 64 (by omega))
    go_wp2_with (go_at_call 82; (with_reducible refine HT.out.mono ?_); rintro e w2 ⟨⟨tp, p, rfl⟩, hb2⟩; have Hb2 := Lib.hid (after Hb.out hb2); clear hb2)
    go_ret2
    exact ⟨Or.inr ⟨Hn.out, 18446744073709551615, tp, p, by decide, rfl⟩, Hb2.out⟩

theorem pu10_64 {w : World} (env : Env w) (t : ByteArray) (hs : t.size ≤ 1000000) : Calls Tryz.prog 51 #[.string t, .int .i64 10, .int .i64 64] w (PuGot 10 18446744073709551616 t.data.toList w) := by
  have hn := num1_B (B := 64) (by decide) t.data.toList
  rcases h : Lib.parseUintB 64 t.data.toList with u | _ | _
  · rw [h] at hn
    refine (Tryz.strconv_ParseUint_10_at64_ok t (by omega) u h w).mono ?_
    rintro e w' ⟨rfl, hw⟩
    refine ⟨Or.inl ⟨u, hn, rfl⟩, ?_⟩
    rcases hw with rfl | rfl
    · exact Below.refl _ _
    · exact Lib.bytesWorld_below _ _ _
  · rw [h] at hn
    obtain ⟨tp, p, hv⟩ := env.es
    refine (Any.strconv_ParseUint_10_at64_syntax Tryz.laysPu14 t (by omega) h (.iface tp p) w hv (Or.inr ⟨tp, p, rfl⟩)).mono ?_
    rintro e w' ⟨N, rfl, _, _, hb⟩
    exact ⟨Or.inr ⟨hn, 0, _, _, by decide, rfl⟩, hb⟩
  · rw [h] at hn
    obtain ⟨tp, p, hv⟩ := env.er
    refine (Tryz.strconv_ParseUint_10_at64_range t (by omega) h (.iface tp p) w hv (Or.inr ⟨tp, p, rfl⟩)).mono ?_
    rintro e w' ⟨N, rfl, _, _, hb⟩
    exact ⟨Or.inr ⟨hn, 18446744073709551615, _, _, by decide, rfl⟩, hb⟩
theorem pu10_8 {w : World} (env : Env w) (t : ByteArray) (hs : t.size ≤ 1000000) : Calls Tryz.prog 51 #[.string t, .int .i64 10, .int .i64 8] w (PuGot 10 256 t.data.toList w) := by
  have hn := num1_B (B := 8) (by decide) t.data.toList
  rcases h : Lib.parseUintB 8 t.data.toList with u | _ | _
  · rw [h] at hn
    refine (Tryz.strconv_ParseUint_10_at8_ok t (by omega) u h w).mono ?_
    rintro e w' ⟨rfl, hw⟩
    refine ⟨Or.inl ⟨u, hn, rfl⟩, ?_⟩
    rcases hw with rfl | rfl
    · exact Below.refl _ _
    · exact Lib.bytesWorld_below _ _ _
  · rw [h] at hn
    obtain ⟨tp, p, hv⟩ := env.es
    refine (Any.strconv_ParseUint_10_at8_syntax Tryz.laysPu14 t (by omega) h (.iface tp p) w hv (Or.inr ⟨tp, p, rfl⟩)).mono ?_
    rintro e w' ⟨N, rfl, _, _, hb⟩
    exact ⟨Or.inr ⟨hn, 0, _, _, by decide, rfl⟩, hb⟩
  · rw [h] at hn
    obtain ⟨tp, p, hv⟩ := env.er
    refine (Tryz.strconv_ParseUint_10_at8_range t (by omega) h (.iface tp p) w hv (Or.inr ⟨tp, p, rfl⟩)).mono ?_
    rintro e w' ⟨N, rfl, _, _, hb⟩
    exact ⟨Or.inr ⟨hn, 255, _, _, by decide, rfl⟩, hb⟩
end Go.Proofs.YtomndcjgdfhmbaaGreatDoor

/- The program's reading of numbers between signs: the walk. -/
namespace Go.Proofs.YtomndcjgdfhmbaaGreatDoor
open Go.RowKit

theorem info_u64 : (Tryz.prog.info? 22).map (fun i => (i.zero, i.size, i.bytes)) = some (some (.int .u64 0), 1, 8) := by kernel_rfl
def cellsU (L : List Nat) : List Value := L.map fun x : Nat => Value.int .u64 (x : Int)
theorem cellsU_snoc (L : List Nat) (x : Nat) : cellsU (L ++ [x]) = cellsU L ++ [.int .u64 (x : Int)] := by simp [cellsU]
theorem own_shape {w : World} {base size n : Nat} {e : TypeId} {v : Value} {xs : List Value} (h : w.ownsRow base e size v n xs) : ∃ A cap, v = .slice A n cap := by
  rcases h.2 with ⟨rfl, rfl⟩ | ⟨g, cap, cur, rfl, _⟩
  · exact ⟨none, 0, rfl⟩
  · exact ⟨_, _, rfl⟩
theorem split1_size {c : UInt8} : ∀ {l x : List UInt8}, x ∈ split1 c l → x.length ≤ l.length := by
  intro l
  induction l with
  | nil => intro x hx; simp [split1] at hx; simp [hx]
  | cons a l ih =>
    intro x hx
    unfold split1 at hx
    split at hx
    · rcases List.mem_cons.1 hx with rfl | hx
      · simp
      · have := ih hx; simp; omega
    · split at hx
      · next e => exact absurd e (split1_ne c l)
      · next h t e =>
        rcases List.mem_cons.1 hx with rfl | hx
        · have := ih (x := h) (by rw [e]; exact List.mem_cons_self ..)
          simp; omega
        · have := ih (x := x) (by rw [e]; exact List.mem_cons_of_mem _ hx)
          simp; omega
theorem num1_bound {base B B' n : Nat} {l : List UInt8} (h : num1 base B l = some n) (hB : B' ≤ B) : num1 base B' l = if n < B' then some n else none := by
  unfold num1 at h ⊢
  split at h
  · cases h
  · next hl =>
    rw [if_neg hl]
    cases e : pval (dval base) base 0 l with
    | none => rw [e] at h; cases h
    | some m =>
      rw [e] at h
      simp only [Option.bind_some] at h ⊢
      split at h
      · cases h; rfl
      · cases h
theorem num1_none_of {base B B' : Nat} {l : List UInt8} (h : num1 base B l = none) (hB : B' ≤ B) : num1 base B' l = none := by
  cases e : num1 base B' l with
  | none => rfl
  | some n =>
    have hlt := num1_lt e
    unfold num1 at h e
    split at e
    · cases e
    · next hl =>
      rw [if_neg hl] at h
      cases e2 : pval (dval base) base 0 l with
      | none => rw [e2] at e; cases e
      | some m =>
        rw [e2] at e h
        simp only [Option.bind_some] at e h
        split at e
        · cases e
          rw [if_pos (by omega)] at h
          cases h
        · cases e

/- What numbers answers. -/
def NumGot (Lo : Option (List Nat)) (W : World) (r : Ending) (w' : World) : Prop := (match Lo with
  | none => r = .returned (.tuple #[.slice none 0 0, .bool false])
  | some L => ∃ v : Value, r = .returned (.tuple #[v, .bool true]) ∧ w'.ownsRow W.heap.size 22 1 v L.length (cellsU L)) ∧ Below W.heap.size W w'
theorem NumGot.bad {W w' : World} {Lo : Option (List Nat)} (h : Lo = none) (hb : Below W.heap.size W w') : NumGot Lo W (.returned (.tuple #[.slice none 0 0, .bool false])) w' := by rw [h]; exact ⟨rfl, hb⟩
theorem NumGot.good {W w' : World} {Lo : Option (List Nat)} {L : List Nat} {v : Value} (h : Lo = some L) (ho : w'.ownsRow W.heap.size 22 1 v L.length (cellsU L)) (hb : Below W.heap.size W w') : NumGot Lo W (.returned (.tuple #[v, .bool true])) w' := by rw [h]; exact ⟨⟨v, rfl, ho⟩, hb⟩

set_option maxHeartbeats 4000000 in
set_option maxRecDepth 100000 in
theorem numbers_any {w : World} (env : Env w) (s : ByteArray) (hs : s.size ≤ 100000) (c : UInt8) (base most : Nat) (hmost : most < 18446744073709551616) (hbase : base ≤ 16)
    (hpu : ∀ v, Env v → ∀ t : ByteArray, t.size ≤ 1000000 → Calls Tryz.prog 51 #[.string t, .int .i64 (base : Int), .int .i64 64] v (PuGot base 18446744073709551616 t.data.toList v)) :
    Calls Tryz.prog 43 #[.string s, .string ⟨#[c]⟩, .int .i64 (base : Int), .int .u64 (most : Int)] w (NumGot (numbersL c base (most + 1) s.data.toList) w) := by
  obtain ⟨i0, hi, hz0, hz1, hz2⟩ := info_parts info_u64
  have Henv := Lib.hid env
  have Hpu := Lib.hid hpu
  clear hpu
  by_cases hne : s.size = 0
  · have he : s = ⟨#[]⟩ := by
      apply ByteArray.ext
      exact Array.eq_empty_of_size_eq_zero hne
    rw [he]
    have hL : numbersL c base (most + 1) (⟨#[]⟩ : ByteArray).data.toList = some [] := rfl
    rw [hL]
    clear env hne hmost
    go_enter Tryz.func43, Tryz.ntmps43
    go_wp2_with fail
    go_ret2
    exact NumGot.good (v := .slice none 0 0) rfl (World.ownsRow_nil _ _ _ _) (Below.refl _ _)
  have hemp : s.toList.isEmpty = false := by
    rw [← decide_eq_emptyBytes]
    exact decide_eq_false (fun h => hne (by rw [h]; rfl))
  have hsl : s.data.toList.length = s.size := (Lib.size_eq s).symm
  have hnl : s.data.toList ≠ [] := fun e => hne (by rw [← hsl, e]; rfl)
  have hnum : numbersL c base (most + 1) s.data.toList = gather base (most + 1) (split1 c s.data.toList) [] := by unfold numbersL; rw [if_neg hnl]
  rw [hnum]
  have hsp := splitB_one s ⟨#[c]⟩ c rfl
  have hpl : ∀ t ∈ split1 c s.data.toList, t.length ≤ s.size := fun t ht => by have := split1_size ht; omega
  obtain ⟨m, hm⟩ := env.mx
  have HS := Lib.hid (Tryz.strings_Split s ⟨#[c]⟩ m w (by omega) hm (show 1 ≤ 1 from Nat.le_refl _))
  clear hm env hnum hnl hne
  generalize hP : Lib.splitB ⟨#[c]⟩ 0 (Lib.countB s ⟨#[c]⟩) s = P at hsp HS
  have hcount : Lib.countB s ⟨#[c]⟩ + 1 = P.length := by
    have := Lib.splitB_all (⟨#[c]⟩ : ByteArray) (show 1 ≤ 1 from Nat.le_refl _) 0 (Lib.countB s ⟨#[c]⟩) s rfl
    rw [hP] at this
    omega
  rw [hcount] at HS
  have hPl : P.length ≤ s.size + 1 := by
    have := congrArg List.length hsp
    rw [List.length_map] at this
    rw [this]
    have := split1_length c s.data.toList
    omega
  clear hP hcount hsl
  have hPat : ∀ k (hk : k < P.length), (split1 c s.data.toList).drop k = (P[k]'hk).data.toList :: (split1 c s.data.toList).drop (k + 1) ∧ (P[k]'hk).size ≤ 100000 := by
    intro k hk
    have hkQ : k < (split1 c s.data.toList).length := by rw [← hsp, List.length_map]; exact hk
    have e : (split1 c s.data.toList)[k]'hkQ = (P[k]'hk).data.toList := by
      have : (P.map (·.data.toList))[k]'(by rw [List.length_map]; exact hk) = (P[k]'hk).data.toList := by simp
      rw [← this]
      congr 1
      exact hsp.symm
    refine ⟨by rw [List.drop_eq_getElem_cons hkQ, e], ?_⟩
    have h := hpl _ (List.getElem_mem hkQ)
    rw [e, ← Lib.size_eq] at h
    omega
  have hQl : (split1 c s.data.toList).length = P.length := by rw [← hsp, List.length_map]
  generalize split1 c s.data.toList = Q at hPat hQl ⊢
  have HPat := Lib.hid hPat
  have HQl := Lib.hid hQl
  have HPl := Lib.hid hPl
  clear hsp hpl hPat hQl hPl
  obtain ⟨N, hN⟩ : ∃ n, n = P.length := ⟨_, rfl⟩
  rw [← hN] at HS HPl HQl
  have hNs : N ≤ 100001 := by have := HPl.out; omega
  have HN := Lib.hid hN
  clear hN
  obtain ⟨GR, hGR⟩ : ∃ g, g = gather base (most + 1) Q [] := ⟨_, rfl⟩
  rw [← hGR]
  have HGR := Lib.hid hGR
  clear hGR
  go_enter Tryz.func43, Tryz.ntmps43
  go_wp2_with (go_at_call 73; (with_reducible refine HS.out.mono ?_); rintro r w1 ⟨rfl, rfl⟩)
  have hrow : Blk (w.alloc (.cells (P.map Value.string).toArray 9)) w.heap.size 9 (P.map Value.string).toArray := Blk.new _ _ _
  have hb0 := boxed w (.cells (P.map Value.string).toArray 9)
  generalize w.alloc (.cells (P.map Value.string).toArray 9) = W0 at hrow hb0 ⊢
  have Hrow := Lib.hid hrow
  have Hb0 := Lib.hid hb0
  clear hrow hb0
  go_loopw [10, 21] (fun v10 v21 wr => ∃ (k : Nat) (acc : List Nat) (A : Option Addr) (cap : Nat), k ≤ N ∧ v21 = .int .i64 (k : Int) ∧ v10 = .slice A acc.length cap ∧ acc.length ≤ 9 ∧ RowKit.Hid (wr.ownsRow W0.heap.size 22 1 (.slice A acc.length cap) acc.length (cellsU acc)) ∧ RowKit.Hid (Below W0.heap.size W0 wr) ∧ RowKit.Hid (GR = gather base (most + 1) (Q.drop k) acc)) (fun _ v21 _ => N - (intOf v21).toNat)
  case atStart => exact ⟨0, [], none, 0, Nat.zero_le _, rfl, rfl, by simp, Lib.hid (World.ownsRow_nil _ _ _ _), Lib.hid (Below.refl _ _), HGR⟩
  case round =>
    obtain ⟨k, acc, A, cap, hk, rfl, rfl, hal, hown, hb, hg⟩ := hrel
    by_cases hlt : k < N
    · have hkP : k < P.length := by have := HN.out; omega
      have hp := HPat.out k hkP
      have cx := (hb.out.cell (p := ⟨w.heap.size, k, none⟩) Hrow.out.lt).trans (Hrow.out.cell k)
      rw [List.getElem?_toArray, List.getElem?_map, List.getElem?_eq_getElem hkP] at cx
      simp only [Option.map_some] at cx
      generalize P[k]'hkP = T at hp cx
      have hg2 := hg.out
      rw [hp.1] at hg2
      have HF := Lib.hid (Hpu.out wr ((Henv.out.below Hb0.out).below hb.out) T (by have := hp.2; omega))
      generalize T.data.toList = t at hp hg2 HF
      have Hg2 := Lib.hid hg2
      clear hp hg2 hg
      go_wp2_with fail
      go_at_call 51
      refine HF.out.mono ?_
      rintro e w2 ⟨⟨n, hn, rfl⟩ | ⟨hn, n, tp, p, hn64, rfl⟩, hb2⟩
      · have hb3 := Lib.hid (after hb.out hb2)
        have hsz3 : w.heap.size ≤ w2.heap.size := Nat.le_trans Hb0.out.size hb3.out.size
        have ho3 := Lib.hid (own_below hown.out hb2)
        have hb1 := num1_bound hn (B' := most + 1) (by omega)
        have hn64 := num1_lt hn
        clear hn hb2 cx
        by_cases hnm : most < n
        · have hGR : GR = none := by
            rw [Hg2.out]
            unfold gather
            rw [hb1, if_neg (by omega)]
          have HGR2 := Lib.hid hGR
          have hq : (most : Int) < (n : Int) := by omega
          clear hGR hb1
          go_wp2_with fail
          go_ret2
          exact NumGot.bad HGR2.out (after Hb0.out hb3.out)
        · have hq : ¬ (most : Int) < (n : Int) := by omega
          rw [if_pos (by omega)] at hb1
          by_cases h8 : 8 < acc.length
          · have hGR : GR = none := by
              rw [Hg2.out]
              unfold gather
              rw [hb1]
              simp only
              rw [if_pos h8]
            have HGR2 := Lib.hid hGR
            clear hGR hb1
            go_wp2_with fail
            go_ret2
            exact NumGot.bad HGR2.out (after Hb0.out hb3.out)
          · have hGR : GR = gather base (most + 1) (Q.drop (k + 1)) (acc ++ [n]) := by
              rw [Hg2.out]
              conv => lhs; unfold gather
              rw [hb1]
              simp only
              rw [if_neg h8]
            have HGR2 := Lib.hid hGR
            clear hGR hb1
            go_wp2_with (at_builtin; refine wpList_append_own _ rfl _ _ 61 rfl W0.heap.size 22 i0 (.int .u64 0) 1 8 Tryz.underlying61 hi hz0 hz1 hz2 rfl (by decide) _ acc.length _ rfl (ho3.out.alloc _) ⟨w2.heap.size, 0, none⟩ 1 1 [.int .u64 (n : Int)] rfl rfl (cell_one_new _ _ _) (fun x hx => by simp at hx; subst hx; rfl) (by unfold maxLen; omega) (by omega) (by have := hb3.out.size; simp; omega) ?_; intro v' w3 hown' hgrow3 hnil3; have Ho4 := Lib.hid hown'; have hbW := Lib.hid ((hb3.out.alloc (hb3.out.size) _).grown hgrow3 (by have := hb3.out.size; simp; omega) (fun q hq => (ho3.out.lt q hq).1)); clear hown' hgrow3 hnil3)
            obtain ⟨A', cap', rfl⟩ := own_shape Ho4.out
            go_roundw
            case rel => exact ⟨k + 1, acc ++ [n], A', cap', by omega, by go_num, by rw [List.length_append]; rfl, by rw [List.length_append, List.length_singleton]; omega, Lib.hid (by rw [cellsU_snoc, List.length_append]; exact Ho4.out), hbW, HGR2⟩
            case measure => simp [intOf]; omega
      · have hb3 := Lib.hid (after hb.out hb2)
        have hb1 := num1_none_of hn (B' := most + 1) (by omega)
        have hGR : GR = none := by
          rw [Hg2.out]
          unfold gather
          rw [hb1]
        have HGR2 := Lib.hid hGR
        clear hGR hb1 hn hb2 cx
        go_wp2_with fail
        go_ret2
        exact NumGot.bad HGR2.out (after Hb0.out hb3.out)
    · obtain rfl : k = N := by omega
      have hend : GR = some acc := by
        rw [hg.out, List.drop_of_length_le (by have := HQl.out; omega)]
        rfl
      have Hend := Lib.hid hend
      clear hend hg
      go_wp2_with fail
      go_ret2
      exact NumGot.good (v := .slice A acc.length cap) Hend.out (hown.out.mono Hb0.out.size) (after Hb0.out hb.out)
end Go.Proofs.YtomndcjgdfhmbaaGreatDoor

/- Prefixes: masks and bits, the plain law. -/
namespace Go.Proofs.YtomndcjgdfhmbaaGreatDoor
open Go.RowKit

/- 64 ones, moved up by k. -/
def mk (k : Nat) : Nat := 18446744073709551616 - 2 ^ k
theorem pow_le64 {k : Nat} (h : k ≤ 64) : 2 ^ k ≤ 18446744073709551616 := Nat.le_trans (Nat.pow_le_pow_right (by decide) h) (by decide)
theorem mk_lt (k : Nat) : mk k < 18446744073709551616 := by
  have : 0 < 2 ^ k := Nat.pow_pos (by decide)
  unfold mk
  omega
theorem not_mk {k : Nat} (h : k ≤ 64) : 18446744073709551615 - mk k = 2 ^ k - 1 := by
  have := pow_le64 h
  have : 0 < 2 ^ k := Nat.pow_pos (by decide)
  unfold mk
  omega
theorem andNot_mk {x k : Nat} (hx : x < 18446744073709551616) (h : k ≤ 64) : bits .andNot .u64 (x : Int) ((mk k : Nat) : Int) = ((x % 2 ^ k : Nat) : Int) := by
  rw [u64_andNot_nat x _ hx (mk_lt k), not_mk h, Nat.and_two_pow_sub_one_eq_mod]
theorem testBit_mk {k : Nat} (h : k ≤ 64) (i : Nat) : (mk k).testBit i = (decide (i < 64) && !decide (i < k)) := by
  have h0 : 0 < 2 ^ k := Nat.pow_pos (by decide)
  have h1 := pow_le64 h
  have := Nat.testBit_two_pow_sub_succ (show 2 ^ k - 1 < 2 ^ 64 by omega) i
  rw [Nat.testBit_two_pow_sub_one, show 2 ^ 64 - (2 ^ k - 1 + 1) = mk k by unfold mk; omega] at this
  exact this
theorem land_mk {x k : Nat} (hx : x < 18446744073709551616) (h : k ≤ 64) : x &&& mk k = x / 2 ^ k * 2 ^ k := by
  rw [← Nat.shiftRight_eq_div_pow, ← Nat.shiftLeft_eq]
  apply Nat.eq_of_testBit_eq
  intro i
  rw [Nat.testBit_and, testBit_mk h, Nat.testBit_shiftLeft, Nat.testBit_shiftRight]
  by_cases hi : i < 64
  · by_cases hk : i < k
    · simp [hk, Nat.not_le.2 hk]
    · rw [show k + (i - k) = i by omega]
      simp [hi, hk, Nat.not_lt.1 hk]
  · have : x.testBit i = false := Nat.testBit_lt_two_pow (Nat.lt_of_lt_of_le hx (Nat.le_trans (by decide : 18446744073709551616 ≤ 2 ^ 64) (Nat.pow_le_pow_right (by decide) (by omega))))
    rw [show k + (i - k) = i by omega, this]
    simp
theorem and_mk {x k : Nat} (hx : x < 18446744073709551616) (h : k ≤ 64) : bits .and .u64 (x : Int) ((mk k : Nat) : Int) = ((x / 2 ^ k * 2 ^ k : Nat) : Int) := by
  rw [u64_and_nat x _ hx (mk_lt k), land_mk hx h]

/- Which masks the program takes: of the high half, of the low half. -/
def kH (a : Ad) (n : Nat) : Nat := if a.v6 then 64 - n else 0
def kL (a : Ad) (n : Nat) : Nat := if a.v6 then (if n ≤ 64 then 64 else 128 - n) else 32 - n
theorem kH_le (a : Ad) (n : Nat) : kH a n ≤ 64 := by unfold kH; split <;> omega
theorem kL_le {a : Ad} {n : Nat} : kL a n ≤ 64 := by
  unfold kL
  split
  · split <;> omega
  · omega

/- x y as one number of k + 64 bits; cut below. -/
theorem glue_mod (hi lo k : Nat) (hl : lo < 18446744073709551616) : (hi * 2 ^ 64 + lo) % 2 ^ (k + 64) = hi % 2 ^ k * 2 ^ 64 + lo := by
  rw [Nat.pow_add, Nat.mul_comm (2 ^ k), Nat.mod_mul]
  have e1 : (hi * 2 ^ 64 + lo) % 2 ^ 64 = lo := by omega
  have e2 : (hi * 2 ^ 64 + lo) / 2 ^ 64 = hi := by omega
  rw [e1, e2, Nat.mul_comm (2 ^ 64)]
  omega
theorem glue_div (hi lo k : Nat) (hl : lo < 18446744073709551616) : (hi * 2 ^ 64 + lo) / 2 ^ (k + 64) = hi / 2 ^ k := by
  rw [Nat.pow_add, Nat.mul_comm (2 ^ k), ← Nat.div_div_eq_div_mul]
  have e2 : (hi * 2 ^ 64 + lo) / 2 ^ 64 = hi := by omega
  rw [e2]
theorem low_mod (hi lo k : Nat) (hk : k ≤ 64) : (hi * 2 ^ 64 + lo) % 2 ^ k = lo % 2 ^ k := by
  have : hi * 2 ^ 64 = 2 ^ k * (hi * 2 ^ (64 - k)) := by
    rw [Nat.mul_left_comm, ← Nat.pow_add, show k + (64 - k) = 64 by omega]
  rw [this, Nat.mul_add_mod]
theorem low_div (hi lo k : Nat) (hk : k ≤ 64) : (hi * 2 ^ 64 + lo) / 2 ^ k = hi * 2 ^ (64 - k) + lo / 2 ^ k := by
  have : hi * 2 ^ 64 = 2 ^ k * (hi * 2 ^ (64 - k)) := by
    rw [Nat.mul_left_comm, ← Nat.pow_add, show k + (64 - k) = 64 by omega]
  rw [this, Nat.mul_add_div (Nat.pow_pos (by decide))]
theorem low_lt {lo k : Nat} (hl : lo < 18446744073709551616) (hk : k ≤ 64) : lo / 2 ^ k < 2 ^ (64 - k) := by
  apply Nat.div_lt_of_lt_mul
  rw [← Nat.pow_add, show k + (64 - k) = 64 by omega]
  exact hl
theorem glue_inj {a b c d m : Nat} (hb : b < m) (hd : d < m) : a * m + b = c * m + d ↔ a = c ∧ b = d := by
  constructor
  · intro h
    have h1 : (a * m + b) / m = (c * m + d) / m := by rw [h]
    have hm : 0 < m := by omega
    rw [Nat.mul_comm a, Nat.mul_comm c, Nat.mul_add_div hm, Nat.mul_add_div hm, Nat.div_eq_of_lt hb, Nat.div_eq_of_lt hd] at h1
    have : a = c := by omega
    subst this
    exact ⟨rfl, by omega⟩
  · rintro ⟨rfl, rfl⟩; rfl

theorem val_mod {a : Ad} (ok : a.Ok) {n : Nat} (hn : n ≤ a.size) (h4 : a.v6 = false → a.hi = 0) : a.val % 2 ^ (a.size - n) = 0 ↔ a.hi % 2 ^ kH a n = 0 ∧ a.lo % 2 ^ kL a n = 0 := by
  have hl := ok.lo
  unfold Ad.val Ad.size kH kL at *
  cases h6 : a.v6 with
  | true =>
    rw [h6] at hn
    simp only [if_true] at hn ⊢
    by_cases h : n ≤ 64
    · rw [show 128 - n = (64 - n) + 64 by omega, glue_mod _ _ _ hl, if_pos h, Nat.mod_eq_of_lt (a := a.lo) (by omega)]
      omega
    · rw [low_mod _ _ _ (by omega), if_neg h, show 64 - n = 0 by omega, Nat.pow_zero, Nat.mod_one]
      simp
  | false =>
    rw [h6] at hn
    simp only [Bool.false_eq_true, if_false] at hn ⊢
    rw [h4 h6]
    simp
theorem val_div {a b : Ad} (oa : a.Ok) (ob : b.Ok) (h6 : a.v6 = b.v6) {n : Nat} (hn : n ≤ a.size) (ha : a.v6 = false → a.hi = 0) (hb : b.v6 = false → b.hi = 0) : a.val / 2 ^ (a.size - n) = b.val / 2 ^ (a.size - n) ↔ a.hi / 2 ^ kH a n = b.hi / 2 ^ kH a n ∧ a.lo / 2 ^ kL a n = b.lo / 2 ^ kL a n := by
  have hl := oa.lo
  have hm := ob.lo
  unfold Ad.val Ad.size kH kL at *
  rw [← h6] at hb ⊢
  cases h : a.v6 with
  | true =>
    rw [h] at hn
    simp only [if_true] at hn ⊢
    by_cases hc : n ≤ 64
    · rw [show 128 - n = (64 - n) + 64 by omega, glue_div _ _ _ hl, glue_div _ _ _ hm, if_pos hc, Nat.div_eq_of_lt (a := a.lo) (by omega), Nat.div_eq_of_lt (a := b.lo) (by omega)]
      simp
    · rw [low_div _ _ _ (by omega), low_div _ _ _ (by omega), if_neg hc, show 64 - n = 0 by omega, Nat.pow_zero, Nat.div_one, Nat.div_one]
      exact glue_inj (low_lt hl (by omega)) (low_lt hm (by omega))
  | false =>
    rw [h] at hn
    simp only [Bool.false_eq_true, if_false] at hn ⊢
    rw [ha h, hb h]
    simp
theorem may_hi {a : Ad} (h : a.may = true) : a.v6 = false → a.hi = 0 := fun h6 => (may4 h h6).1
theorem pmay_eq {p : Pf} (ok : p.a.Ok) : pmay p = (p.a.may && decide (p.bits ≤ p.a.size) && (decide (p.a.hi % 2 ^ kH p.a p.bits = 0) && decide (p.a.lo % 2 ^ kL p.a p.bits = 0))) := by
  unfold pmay
  cases hm : p.a.may with
  | false => rfl
  | true =>
    by_cases hn : p.bits ≤ p.a.size
    · rw [decide_eq_true hn, Bool.true_and, Bool.true_and, Bool.true_and, ← Bool.decide_and]
      exact decide_eq_decide.2 (val_mod ok hn (may_hi hm))
    · rw [decide_eq_false hn]; rfl
theorem div_mul_eq {x y k : Nat} (hy : y % 2 ^ k = 0) : x / 2 ^ k * 2 ^ k = y ↔ x / 2 ^ k = y / 2 ^ k := by
  have h := Nat.div_add_mod y (2 ^ k)
  rw [hy, Nat.add_zero, Nat.mul_comm] at h
  have hp : 0 < 2 ^ k := Nat.pow_pos (by decide)
  constructor
  · intro e
    rw [← e, Nat.mul_div_cancel _ hp]
  · intro e
    rw [e, h]
theorem holdsP_eq {p : Pf} {a : Ad} (ok : p.a.Ok) (oa : a.Ok) : holdsP p a = (pmay p && a.may && (p.a.v6 == a.v6) && (decide (a.hi / 2 ^ kH a p.bits * 2 ^ kH a p.bits = p.a.hi) && decide (a.lo / 2 ^ kL a p.bits * 2 ^ kL a p.bits = p.a.lo))) := by
  unfold holdsP
  cases hp : pmay p with
  | false => rfl
  | true =>
    cases hm : a.may with
    | false => rfl
    | true =>
      by_cases h6 : p.a.v6 = a.v6
      · rw [h6, beq_self_eq_true, Bool.true_and, Bool.true_and, Bool.true_and, ← Bool.decide_and]
        have hb := pmay_may hp
        have hs : p.a.size = a.size := by unfold Ad.size; rw [h6]
        have e := pmay_eq (p := p) ok
        rw [hp, hb.1, decide_eq_true hb.2, Bool.true_and, Bool.true_and] at e
        have e2 := e.symm
        rw [Bool.and_eq_true, decide_eq_true_eq, decide_eq_true_eq] at e2
        have hk : kH p.a p.bits = kH a p.bits ∧ kL p.a p.bits = kL a p.bits := by unfold kH kL; rw [h6]; exact ⟨rfl, rfl⟩
        rw [hk.1, hk.2] at e2
        refine decide_eq_decide.2 ?_
        rw [hs, div_mul_eq e2.1, div_mul_eq e2.2]
        exact val_div oa ok h6.symm (by rw [← hs]; exact hb.2) (may_hi hm) (may_hi hb.1)
      · rw [show (p.a.v6 == a.v6) = false by simpa using h6]
        rfl

/- Bits, from the highest on. -/
def bitA (a : Ad) (i : Nat) : Bool := decide (a.val / 2 ^ (a.size - 1 - i) % 2 = 1)
theorem bits_zero (v n : Nat) : ∀ m, m ≤ n → ((∀ i, n - m ≤ i → i < n → v / 2 ^ (n - 1 - i) % 2 = 0) ↔ v % 2 ^ m = 0) := by
  intro m
  induction m with
  | zero => intro _; rw [Nat.pow_zero, Nat.mod_one]; exact ⟨fun _ => rfl, fun _ i h1 h2 => by omega⟩
  | succ m ih =>
    intro hm
    rw [Nat.pow_succ, Nat.mod_mul]
    have hp : 0 < 2 ^ m := Nat.pow_pos (by decide)
    constructor
    · intro h
      have h1 := (ih (by omega)).1 fun i h1 h2 => h i (by omega) h2
      have h2 := h (n - (m + 1)) (by omega) (by omega)
      rw [show n - 1 - (n - (m + 1)) = m by omega] at h2
      rw [h1, h2, Nat.mul_zero]
    · intro h i h1 h2
      have h3 : v % 2 ^ m = 0 := by omega
      have h4 : 2 ^ m * (v / 2 ^ m % 2) = 0 := by omega
      have h5 : v / 2 ^ m % 2 = 0 := by
        rcases Nat.mul_eq_zero.1 h4 with h | h
        · omega
        · exact h
      by_cases e : i = n - (m + 1)
      · rw [e, show n - 1 - (n - (m + 1)) = m by omega]; exact h5
      · exact (ih (by omega)).2 h3 i (by omega) h2
theorem bits_same (v u n : Nat) (hv : v < 2 ^ n) (hu : u < 2 ^ n) : ∀ m, m ≤ n → ((∀ i, i < m → v / 2 ^ (n - 1 - i) % 2 = u / 2 ^ (n - 1 - i) % 2) ↔ v / 2 ^ (n - m) = u / 2 ^ (n - m)) := by
  intro m
  induction m with
  | zero =>
    intro _
    rw [Nat.sub_zero, Nat.div_eq_of_lt hv, Nat.div_eq_of_lt hu]
    exact ⟨fun _ => rfl, fun _ i h => by omega⟩
  | succ m ih =>
    intro hm
    have e : ∀ x : Nat, x / 2 ^ (n - m) = x / 2 ^ (n - (m + 1)) / 2 := by
      intro x
      rw [Nat.div_div_eq_div_mul, ← Nat.pow_succ, show (n - (m + 1)).succ = n - m by omega]
    constructor
    · intro h
      have h1 := (ih (by omega)).1 fun i hi => h i (by omega)
      have h2 := h m (by omega)
      rw [show n - 1 - m = n - (m + 1) by omega] at h2
      rw [e, e] at h1
      omega
    · intro h i hi
      by_cases ei : i = m
      · rw [ei, show n - 1 - m = n - (m + 1) by omega, h]
      · exact (ih (by omega)).2 (by rw [e, e, h]) i (by omega)
end Go.Proofs.YtomndcjgdfhmbaaGreatDoor
