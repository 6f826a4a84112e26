/- Joined out of: PuB PuC Fb TwA NuA PlC. -/
import Derived.Test.YtbiglifngfgffaaGreatDoorLac
import Derived.Test.YtbiglifngfgffaaGreatDoorLab
import Derived.Test.YtbiglifngfgffaaGreatDoorLaa
import Derived.Lib.ConvBytes
import Derived.Lib.AtoiErrMem
import Derived.Lib.Strings
import Derived.Laws.BitsAllLaws
import Derived.IntWalk
import Derived.Maps.AppendAt
import Derived.Lib.SplitLaws
import Derived.Deep.Onto
import Derived.Deep.RegionHeld3
import Derived.Deep.DrawnRows
set_option linter.unusedVariables false
set_option linter.unusedSimpArgs false

/- strconv.ParseUint of base 16 and 64 bits: the walk; of base 10 off the shelf. -/
namespace Go.Proofs.YtbiglifngfgffaaGreatDoor
open Go.RowKit

def low32 (c : Nat) : Nat := c ||| 32
theorem low32_lt (c : Nat) (h : c < 256) : low32 c < 256 := Nat.or_lt_two_pow (n := 8) h (by decide)
theorem low32_dval : ∀ c : Fin 256, ¬ (48 ≤ c.1 ∧ c.1 ≤ 57) → dval 16 (UInt8.ofNat c.1) = if 97 ≤ low32 c.1 ∧ low32 c.1 ≤ 102 then some (low32 c.1 - 97 + 10) else none := by decide +kernel
theorem dval_letter (c : UInt8) (h : ¬ (48 ≤ c.toNat ∧ c.toNat ≤ 57)) : dval 16 c = if 97 ≤ low32 c.toNat ∧ low32 c.toNat ≤ 102 then some (low32 c.toNat - 97 + 10) else none := by
  have := low32_dval ⟨c.toNat, c.toNat_lt⟩ h
  rwa [UInt8.ofNat_toNat] at this
theorem dval_digit (c : UInt8) (h : 48 ≤ c.toNat ∧ c.toNat ≤ 57) : dval 16 c = some (c.toNat - 48) := by
  unfold dval
  rw [if_pos h, if_pos (by omega)]
theorem lower_any (c : Nat) (hc : c < 256) (w : World) : Calls Tryz.prog 155 #[.int .u8 (c : Int)] w fun e w' => e = .returned (.int .u8 (low32 c : Int)) ∧ w = w' := by
  have e1 : bits .or .u8 (c : Int) 32 = (low32 c : Int) := u8_or_nat c 32 hc (by decide)
  go_enter Tryz.func155, Tryz.ntmps155
  go_wp2_with fail
  go_ret
  exact ⟨rfl, rfl⟩

/- What the inner one answers: a number, or which error. -/
def PuIn (l : List UInt8) (r : Ending) : Prop := (∃ n : Nat, num1 16 18446744073709551616 l = some n ∧ r = .returned (.tuple #[.int .u64 (n : Int), .nilIface])) ∨ (num1 16 18446744073709551616 l = none ∧ ((r = .returned (.tuple #[.int .u64 0, .iface 216 (.int .i64 2)])) ∨ (r = .returned (.tuple #[.int .u64 18446744073709551615, .iface 216 (.int .i64 1)]))))
theorem PuIn.bad {l : List UInt8} (h : num1 16 18446744073709551616 l = none) : PuIn l (.returned (.tuple #[.int .u64 0, .iface 216 (.int .i64 2)])) := Or.inr ⟨h, Or.inl rfl⟩
theorem PuIn.big {l : List UInt8} (h : num1 16 18446744073709551616 l = none) : PuIn l (.returned (.tuple #[.int .u64 18446744073709551615, .iface 216 (.int .i64 1)])) := Or.inr ⟨h, Or.inr rfl⟩
def num16 (acc : Nat) (l : List UInt8) : Option Nat := (pval (dval 16) 16 acc l).bind fun n => if n < 18446744073709551616 then some n else none
theorem num16_big {acc : Nat} {l : List UInt8} (h : 18446744073709551616 ≤ acc) : num16 acc l = none := pval_none_lt (by decide) h
theorem num16_cons (acc : Nat) (c : UInt8) (r : List UInt8) : num16 acc (c :: r) = match dval 16 c with
    | none => none
    | some d => num16 (acc * 16 + d) r := by
  unfold num16
  conv => lhs; arg 1; unfold pval
  cases dval 16 c <;> rfl

set_option maxHeartbeats 8000000 in
set_option maxRecDepth 100000 in
theorem pu16_in (t : ByteArray) (hmax : t.size ≤ 9223372036854775806) (w : World) : Calls Tryz.prog 143 #[.string t, .int .i64 16, .int .i64 64] w fun e w' => PuIn t.data.toList e ∧ Below w.heap.size w w' := by
  by_cases hne : t.size = 0
  · have he : t = ⟨#[]⟩ := by
      apply ByteArray.ext
      exact Array.eq_empty_of_size_eq_zero hne
    rw [he]
    have hb := Below.refl w.heap.size w
    go_enter Tryz.func143, Tryz.ntmps143
    go_wp2_with fail
    go_ret2
    exact ⟨PuIn.bad rfl, hb⟩
  have hemp : t.toList.isEmpty = false := by
    rw [← decide_eq_emptyBytes]
    exact decide_eq_false (fun h => hne (by rw [h]; rfl))
  have hcv := Lib.run_convert_string_bytes (P := Tryz.prog) w 9 40 5 t Tryz.underlying9 Tryz.underlying40 Tryz.underlying5
  have hB : ∀ j, j < t.size → (Lib.bytesWorld w 5 t).cell? ⟨w.heap.size, j, none⟩ = some (.int .u8 (t.data.toList.getD j 0).toNat) := fun j hj => Lib.bytesWorld_cell w 5 t j hj
  have hbl := Lib.bytesWorld_below w 5 t
  obtain ⟨W1, hW1⟩ : ∃ W1, W1 = Lib.bytesWorld w 5 t := ⟨_, rfl⟩
  rw [← hW1] at hcv hB hbl
  clear hW1
  have Hbl := Lib.hid hbl
  clear hbl
  obtain ⟨bs, hL⟩ : ∃ bs, bs = t.data.toList := ⟨_, rfl⟩
  have hLn : bs.length = t.size := by rw [hL, Lib.size_eq]
  rw [← hL] at hB ⊢
  have hbs : bs ≠ [] := fun e => hne (by rw [← hLn, e]; rfl)
  clear hL
  have hnum : num1 16 18446744073709551616 bs = num16 0 bs := by
    unfold num1 num16
    rw [if_neg hbs]
  have Hnum := Lib.hid hnum
  have HBc := Lib.hid hB
  have HLn := Lib.hid hLn
  clear hnum hB hLn hbs hne
  have hmv : IntKind.u64.wrap (IntKind.u64.wrap 18446744073709551616 - 1) = 18446744073709551615 := by
    rw [IntKind.wrap_u64, IntKind.wrap_u64]
    decide
  go_enter Tryz.func143, Tryz.ntmps143
  go_wp2_with fail
  go_loop [12, 13, 101] (fun vu vn vi => ∃ (k acc : Nat) (a : Int), vu = .bool false ∧ vn = .int .u64 a ∧ vi = .int .i64 k ∧ k ≤ t.size ∧ Hid (a = (acc : Int) ∧ acc < 18446744073709551616 ∧ num16 0 bs = num16 acc (bs.drop k)))
    (fun _ _ vi => t.size - (intOf vi).toNat)
  case atStart => exact ⟨0, 0, 0, rfl, rfl, rfl, by omega, rfl, by omega, rfl⟩
  case round =>
    obtain ⟨k, acc, a, rfl, rfl, rfl, hk, hh⟩ := hrel
    obtain ⟨ha, hacc, hdec⟩ := hh.out
    clear hh
    have a0 : 0 ≤ a := by omega
    have a1 : a < 18446744073709551616 := by omega
    by_cases hkn : k < t.size
    · have hkl : k < bs.length := by have := HLn.out; omega
      have hc := HBc.out k hkn
      have hdrop : bs.drop k = bs[k]'hkl :: bs.drop (k + 1) := List.drop_eq_getElem_cons hkl
      have hget : bs.getD k 0 = bs[k]'hkl := by simp [List.getD, List.getElem?_eq_getElem hkl]
      rw [hdrop, num16_cons] at hdec
      rw [hget] at hc
      generalize bs[k]'hkl = c at hc hdec
      have hc256 : c.toNat < 256 := c.toNat_lt
      have hdd := dval_digit c
      have hdl := dval_letter c
      have hlw := Lib.hid (lower_any c.toNat hc256 W1)
      have hm256 := low32_lt c.toNat hc256
      have h95 : c.toNat = 95 → low32 c.toNat = 127 := fun h => by rw [h]; rfl
      generalize low32 c.toNat = m at hdl hlw hm256 h95
      generalize dval 16 c = D at hdec hdd hdl
      generalize c.toNat = x at hc hc256 hdd hdl hlw h95
      clear hdrop hget
      by_cases hdig : 48 ≤ x ∧ x ≤ 57
      · obtain ⟨hd0, hd1⟩ := hdig
        rw [hdd ⟨hd0, hd1⟩] at hdec
        simp only at hdec
        clear hdd hdl
        by_cases hcut : 1152921504606846976 ≤ acc
        · have hF : num16 0 bs = none := by rw [hdec]; exact num16_big (by omega)
          have icut : 1152921504606846976 ≤ a := by omega
          have HF := Lib.hid hF
          clear hcut hacc hF ha hdec
          go_wp2_with fail
          go_ret2
          exact ⟨PuIn.big (Hnum.out.trans HF.out), Hbl.out⟩
        · have HN : Hid (a * 16 + ((x : Int) - 48) = ((acc * 16 + (x - 48) : Nat) : Int) ∧ acc * 16 + (x - 48) < 18446744073709551616 ∧ num16 0 bs = num16 (acc * 16 + (x - 48)) (bs.drop (k + 1))) := Lib.hid ⟨by omega, by omega, hdec⟩
          have icut : a < 1152921504606846976 := by omega
          have iov : a * 16 + ((x : Int) - 48) < 18446744073709551616 := by omega
          clear hcut hacc hdec ha
          go_wp2_with fail
          refine ⟨⟨k + 1, acc * 16 + (x - 48), a * 16 + ((x : Int) - 48), rfl, (by first | rfl | (congr 1; omega)), (by first | rfl | (congr 1; omega)), by omega, HN⟩, by simp [intOf]; omega⟩
      · rw [hdl hdig] at hdec
        clear hdd hdl
        by_cases hx95 : x = 95
        · have hm127 := h95 hx95
          subst hx95
          subst hm127
          rw [if_neg (by omega)] at hdec
          simp only at hdec
          have HF := Lib.hid hdec
          have hl2 : Calls Tryz.prog 155 #[.int .u8 95] W1 fun e w' => e = .returned (.int .u8 127) ∧ W1 = w' := hlw.out
          have Hl2 := Lib.hid hl2
          have hc2 : W1.cell? ⟨w.heap.size, k, none⟩ = some (.int .u8 95) := hc
          clear hc hdec hacc ha hdig hm256 hc256 h95 hlw hl2
          go_wp2_with (go_at_call 155; (with_reducible refine Hl2.out.mono ?_); rintro e w' ⟨rfl, rfl⟩)
          all_goals (go_ret2; exact ⟨PuIn.bad (Hnum.out.trans HF.out), Hbl.out⟩)
        · have hq95 : ((x : Int) == 95) = false := by simp; omega
          clear h95 hx95
          by_cases hlet : 97 ≤ m ∧ m ≤ 102
          · rw [if_pos hlet] at hdec
            simp only at hdec
            obtain ⟨hm0, hm1⟩ := hlet
            have hm2 : m ≤ 122 := by omega
            by_cases hcut : 1152921504606846976 ≤ acc
            · have hF : num16 0 bs = none := by rw [hdec]; exact num16_big (by omega)
              have icut : 1152921504606846976 ≤ a := by omega
              have HF := Lib.hid hF
              clear hcut hacc hF ha hdec
              go_wp2_with (go_at_call 155; (with_reducible refine (hlw.out).mono ?_); rintro e w' ⟨rfl, rfl⟩)
              all_goals (go_ret2; exact ⟨PuIn.big (Hnum.out.trans HF.out), Hbl.out⟩)
            · have HN : Hid (a * 16 + ((m : Int) - 97 + 10) = ((acc * 16 + (m - 97 + 10) : Nat) : Int) ∧ acc * 16 + (m - 97 + 10) < 18446744073709551616 ∧ num16 0 bs = num16 (acc * 16 + (m - 97 + 10)) (bs.drop (k + 1))) := Lib.hid ⟨by omega, by omega, hdec⟩
              have icut : a < 1152921504606846976 := by omega
              have iov : a * 16 + ((m : Int) - 97 + 10) < 18446744073709551616 := by omega
              clear hcut hacc hdec ha
              go_wp2_with (go_at_call 155; (with_reducible refine (hlw.out).mono ?_); rintro e w' ⟨rfl, rfl⟩)
              all_goals exact ⟨⟨k + 1, acc * 16 + (m - 97 + 10), a * 16 + ((m : Int) - 97 + 10), rfl, (by first | rfl | (congr 1; omega)), (by first | rfl | (congr 1; omega)), by omega, HN⟩, by simp [intOf]; omega⟩
          · rw [if_neg hlet] at hdec
            simp only at hdec
            have HF := Lib.hid hdec
            clear hdec hacc ha
            by_cases hm0 : 97 ≤ m
            · by_cases hm1 : m ≤ 122
              · have hm2 : 102 < m := by omega
                clear hlet
                go_wp2_with (go_at_call 155; (with_reducible refine (hlw.out).mono ?_); rintro e w' ⟨rfl, rfl⟩)
                all_goals (go_ret2; exact ⟨PuIn.bad (Hnum.out.trans HF.out), Hbl.out⟩)
              · clear hlet
                go_wp2_with (go_at_call 155; (with_reducible refine (hlw.out).mono ?_); rintro e w' ⟨rfl, rfl⟩)
                all_goals (go_ret2; exact ⟨PuIn.bad (Hnum.out.trans HF.out), Hbl.out⟩)
            · clear hlet
              go_wp2_with (go_at_call 155; (with_reducible refine (hlw.out).mono ?_); rintro e w' ⟨rfl, rfl⟩)
              all_goals (go_ret2; exact ⟨PuIn.bad (Hnum.out.trans HF.out), Hbl.out⟩)
    · have hkk : k = t.size := by omega
      subst hkk
      have hF : num16 0 bs = some acc := by
        rw [hdec, List.drop_eq_nil_of_le (by have := HLn.out; omega)]
        unfold num16
        simp only [pval, Option.bind_some]
        rw [if_pos hacc]
      have HF := Lib.hid hF
      subst ha
      clear hdec hacc a0 a1 hF
      go_wp2_with fail
      go_ret2
      exact ⟨Or.inl ⟨acc, Hnum.out.trans HF.out, rfl⟩, Hbl.out⟩
end Go.Proofs.YtbiglifngfgffaaGreatDoor

/- strconv.ParseUint: of base 16 and 64 bits, of base 10 and 64 or 8 bits. -/
namespace Go.Proofs.YtbiglifngfgffaaGreatDoor
open Go.RowKit

def PuGot (base B : Nat) (l : List UInt8) (w : World) (r : Ending) (w' : World) : Prop := PuRes base B l r ∧ Below w.heap.size w w'
theorem toErr_syntax {w : World} (env : Env w) (fn s : ByteArray) (base bits : Int) (hs : s.size ≤ 281474976710656) : Calls Tryz.prog 144 #[.string fn, .string s, .int .i64 base, .int .i64 bits, .iface 216 (.int .i64 2)] w fun e w' => (∃ (tp : TypeId) (p : Value), e = .returned (.iface tp p)) ∧ Below w.heap.size w w' := by
  obtain ⟨tp, p, hv⟩ := env.es
  have := AnyPu.strconv_toError_syntax (P := Tryz.prog) (ρ := Tryz.laysPu14_ren) { Tryz.laysPu14 with } fn s base bits (.iface tp p) w hs hv (Or.inr ⟨tp, p, rfl⟩)
  exact this.mono fun e w' ⟨N, he, _, _, hb⟩ => ⟨⟨_, _, he⟩, hb⟩
theorem toErr_range {w : World} (env : Env w) (fn s : ByteArray) (base bits : Int) (hs : s.size ≤ 281474976710656) : Calls Tryz.prog 144 #[.string fn, .string s, .int .i64 base, .int .i64 bits, .iface 216 (.int .i64 1)] w fun e w' => (∃ (tp : TypeId) (p : Value), e = .returned (.iface tp p)) ∧ Below w.heap.size w w' := by
  obtain ⟨tp, p, hv⟩ := env.er
  have := AnyPu.strconv_toError_range (P := Tryz.prog) (ρ := Tryz.laysPu14_ren) { Tryz.laysPu14 with } fn s base bits (.iface tp p) w hs hv (Or.inr ⟨tp, p, rfl⟩)
  exact this.mono fun e w' ⟨N, he, _, _, hb⟩ => ⟨⟨_, _, he⟩, hb⟩

set_option maxHeartbeats 1000000 in
theorem pu16 {w : World} (env : Env w) (t : ByteArray) (hs : t.size ≤ 4000000) : Calls Tryz.prog 125 #[.string t, .int .i64 16, .int .i64 64] w (PuGot 16 18446744073709551616 t.data.toList w) := by
  have H := Lib.hid (pu16_in t (by omega) w)
  have Henv := Lib.hid env
  clear env
  obtain ⟨bs, hL⟩ : ∃ bs, bs = t.data.toList := ⟨_, rfl⟩
  rw [← hL] at H ⊢
  clear hL
  go_enter Tryz.func125, Tryz.ntmps125
  go_wp2_with fail
  go_at_call 143
  refine H.out.mono ?_
  rintro e w1 ⟨⟨n, hn, rfl⟩ | ⟨hn, rfl | rfl⟩, hb⟩
  · have Hn := Lib.hid hn
    have Hb := Lib.hid hb
    clear hn hb
    go_wp2_with fail
    go_ret2
    exact ⟨Or.inl ⟨n, Hn.out, rfl⟩, Hb.out⟩
  · have Hn := Lib.hid hn
    have Hb := Lib.hid hb
    clear hn hb
    have HT := Lib.hid (toErr_syntax (Henv.out.below Hb.out) ⟨#[80, 97, 114, 115, 101, 85, 105, 110, 116]⟩ t 16 64 (by omega))
    go_wp2_with (go_at_call 144; (with_reducible refine HT.out.mono ?_); rintro e w2 ⟨⟨tp, p, rfl⟩, hb2⟩; have Hb2 := Lib.hid (after Hb.out hb2); clear hb2)
    go_ret2
    exact ⟨Or.inr ⟨Hn.out, 0, tp, p, by decide, rfl⟩, Hb2.out⟩
  · have Hn := Lib.hid hn
    have Hb := Lib.hid hb
    clear hn hb
    have HT := Lib.hid (toErr_range (Henv.out.below Hb.out) ⟨#[80, 97, 114, 115, 101, 85, 105, 110, 116]⟩ t 16 64 (by omega))
    go_wp2_with (go_at_call 144; (with_reducible refine HT.out.mono ?_); rintro e w2 ⟨⟨tp, p, rfl⟩, hb2⟩; have Hb2 := Lib.hid (after Hb.out hb2); clear hb2)
    go_ret2
    exact ⟨Or.inr ⟨Hn.out, 18446744073709551615, tp, p, by decide, rfl⟩, Hb2.out⟩

theorem pu10_64 {w : World} (env : Env w) (t : ByteArray) (hs : t.size ≤ 4000000) : Calls Tryz.prog 125 #[.string t, .int .i64 10, .int .i64 64] w (PuGot 10 18446744073709551616 t.data.toList w) := by
  have hn := num1_B (B := 64) (by decide) t.data.toList
  rcases h : Lib.parseUintB 64 t.data.toList with u | _ | _
  · rw [h] at hn
    refine (Tryz.strconv_ParseUint_10_at64_ok t (by omega) u h w).mono ?_
    rintro e w' ⟨rfl, hw⟩
    refine ⟨Or.inl ⟨u, hn, rfl⟩, ?_⟩
    rcases hw with rfl | rfl
    · exact Below.refl _ _
    · exact Lib.bytesWorld_below _ _ _
  · rw [h] at hn
    obtain ⟨tp, p, hv⟩ := env.es
    refine (Any.strconv_ParseUint_10_at64_syntax Tryz.laysPu14 t (by omega) h (.iface tp p) w hv (Or.inr ⟨tp, p, rfl⟩)).mono ?_
    rintro e w' ⟨N, rfl, _, _, hb⟩
    exact ⟨Or.inr ⟨hn, 0, _, _, by decide, rfl⟩, hb⟩
  · rw [h] at hn
    obtain ⟨tp, p, hv⟩ := env.er
    refine (Tryz.strconv_ParseUint_10_at64_range t (by omega) h (.iface tp p) w hv (Or.inr ⟨tp, p, rfl⟩)).mono ?_
    rintro e w' ⟨N, rfl, _, _, hb⟩
    exact ⟨Or.inr ⟨hn, 18446744073709551615, _, _, by decide, rfl⟩, hb⟩
theorem pu10_8 {w : World} (env : Env w) (t : ByteArray) (hs : t.size ≤ 4000000) : Calls Tryz.prog 125 #[.string t, .int .i64 10, .int .i64 8] w (PuGot 10 256 t.data.toList w) := by
  have hn := num1_B (B := 8) (by decide) t.data.toList
  rcases h : Lib.parseUintB 8 t.data.toList with u | _ | _
  · rw [h] at hn
    refine (Tryz.strconv_ParseUint_10_at8_ok t (by omega) u h w).mono ?_
    rintro e w' ⟨rfl, hw⟩
    refine ⟨Or.inl ⟨u, hn, rfl⟩, ?_⟩
    rcases hw with rfl | rfl
    · exact Below.refl _ _
    · exact Lib.bytesWorld_below _ _ _
  · rw [h] at hn
    obtain ⟨tp, p, hv⟩ := env.es
    refine (Any.strconv_ParseUint_10_at8_syntax Tryz.laysPu14 t (by omega) h (.iface tp p) w hv (Or.inr ⟨tp, p, rfl⟩)).mono ?_
    rintro e w' ⟨N, rfl, _, _, hb⟩
    exact ⟨Or.inr ⟨hn, 0, _, _, by decide, rfl⟩, hb⟩
  · rw [h] at hn
    obtain ⟨tp, p, hv⟩ := env.er
    refine (Tryz.strconv_ParseUint_10_at8_range t (by omega) h (.iface tp p) w hv (Or.inr ⟨tp, p, rfl⟩)).mono ?_
    rintro e w' ⟨N, rfl, _, _, hb⟩
    exact ⟨Or.inr ⟨hn, 255, _, _, by decide, rfl⟩, hb⟩
end Go.Proofs.YtbiglifngfgffaaGreatDoor

/- strconv.FormatUint of base 16: the walk. -/
namespace Go.Proofs.YtbiglifngfgffaaGreatDoor
open Go.RowKit

theorem tz64 {w : World} (h : w.cell? ⟨7, 15, none⟩ = some (.int .u8 4)) : Calls Tryz.prog 162 #[.int .u64 16] w fun e w' => e = .returned (.int .i64 4) ∧ w = w' := by
  have e1 : IntKind.u64.wrap (bits BinOp.and IntKind.u64 16 (IntKind.u64.wrap (-16)) * 285870213051353865) / 288230376151711744 = 15 := by kernel_rfl
  go_enter Tryz.func162, Tryz.ntmps162
  go_wp2_with fail
  go_ret
  exact ⟨rfl, rfl⟩
theorem tz_ {w : World} (h : w.cell? ⟨7, 15, none⟩ = some (.int .u8 4)) : Calls Tryz.prog 151 #[.int .u64 16] w fun e w' => e = .returned (.int .i64 4) ∧ w = w' := by
  have H := Lib.hid h
  clear h
  go_enter Tryz.func151, Tryz.ntmps151
  go_wp2_with (go_at_call 162; refine (tz64 H.out).mono ?_; rintro e wf ⟨rfl, rfl⟩)
  go_ret
  exact ⟨rfl, rfl⟩
theorem pow2_ {w : World} : Calls Tryz.prog 150 #[.int .i64 16] w fun e w' => e = .returned (.bool true) ∧ w = w' := by
  go_enter Tryz.func150, Tryz.ntmps150
  go_wp2_with fail
  go_ret
  exact ⟨rfl, rfl⟩

/- The row of 65 bytes: the last ones are t. -/
structure HexRow (w : World) (g : Nat) (t : List UInt8) : Prop where
  row : ∃ cs : Array Value, Blk w g 210 cs ∧ cs.size = 65 ∧ (∀ i, i < 65 → ∃ v, cs[i]? = some v) ∧ ∀ j (hj : j < t.length), cs[65 - t.length + j]? = some (.int .u8 ((t[j]'hj).toNat : Int))
theorem HexRow.cell {w : World} {g : Nat} {t : List UInt8} (h : HexRow w g t) (i : Nat) (hi : i < 65) : ∃ v, w.cell? ⟨g, i, none⟩ = some v := by
  obtain ⟨cs, hb, _, ha, _⟩ := h.row
  obtain ⟨v, hv⟩ := ha i hi
  exact ⟨v, (hb.cell i).trans hv⟩
theorem HexRow.frozen {w : World} {g : Nat} {t : List UInt8} (h : HexRow w g t) (i : Nat) : w.frozen? ⟨g, i, none⟩ = false := by
  obtain ⟨cs, hb, _⟩ := h.row
  exact hb.frozen i
theorem HexRow.put {w : World} {g : Nat} {t : List UInt8} (h : HexRow w g t) (ht : t.length < 65) (c : UInt8) : HexRow (w.setCell ⟨g, 64 - t.length, none⟩ (.int .u8 (c.toNat : Int))) g (c :: t) := by
  obtain ⟨cs, hb, hs, ha, hc⟩ := h.row
  refine ⟨_, hb.set_ _ _, by simp [hs], fun i hi => ?_, fun j hj => ?_⟩
  · rw [Array.getElem?_setIfInBounds]
    split
    · exact ⟨_, by rw [if_pos (by omega)]⟩
    · exact ha i hi
  · rw [List.length_cons] at hj ⊢
    rw [Array.getElem?_setIfInBounds]
    cases j with
    | zero => rw [if_pos (by omega), if_pos (by omega)]; rfl
    | succ j =>
      rw [if_neg (by omega), List.getElem_cons_succ]
      have := hc j (by omega)
      rw [← this]
      congr 1
      omega
theorem hexL_step {x y : Nat} {t : List UInt8} (h : hexL x = hexL y ++ t) (hy : 16 ≤ y) : hexL x = hexL (y / 16) ++ (hexd (y % 16) :: t) := by
  rw [h]
  conv => lhs; arg 1; unfold hexL
  rw [dif_neg (by omega), List.append_assoc]
  rfl
theorem hexL_last {x y : Nat} {t : List UInt8} (h : hexL x = hexL y ++ t) (hy : y < 16) : hexL x = hexd y :: t := by
  rw [h]
  conv => lhs; arg 1; unfold hexL
  rw [dif_pos hy]
  rfl
theorem digits36_at (d : Nat) (h : d < 16) : ((⟨#[48, 49, 50, 51, 52, 53, 54, 55, 56, 57, 97, 98, 99, 100, 101, 102, 103, 104, 105, 106, 107, 108, 109, 110, 111, 112, 113, 114, 115, 116, 117, 118, 119, 120, 121, 122]⟩ : ByteArray)[d]'(Nat.lt_trans h (by decide))).toNat = (hexd d).toNat := by
  have : ∀ d : Fin 16, ((⟨#[48, 49, 50, 51, 52, 53, 54, 55, 56, 57, 97, 98, 99, 100, 101, 102, 103, 104, 105, 106, 107, 108, 109, 110, 111, 112, 113, 114, 115, 116, 117, 118, 119, 120, 121, 122]⟩ : ByteArray)[d.1]'(Nat.lt_trans d.2 (by decide))).toNat = (hexd d.1).toNat := by decide
  exact this ⟨d, h⟩
theorem slice65 (g n : Nat) (hn : n ≤ 64) (W : World) : (Instr.sliceAt 210 (.pointer (some ⟨g, 0, none⟩)) (some (.int .i64 ((65 : Int) - (n : Int) - 1))) none none).run Tryz.prog W = .ok (.slice (some ⟨g, 64 - n, none⟩) (n + 1) (n + 1)) W := by
  have ha : Tryz.prog.arrayLen 210 = 65 := by kernel_rfl
  have hu : Tryz.prog.underlying 210 = some (.array (Tryz.prog.arrayLen 210) (Tryz.prog.elem 210)) := by kernel_rfl
  have hs : (sizeOf (Tryz.prog.elem 210)).run Tryz.prog W = .ok 1 W := by kernel_rfl
  rw [run_sliceAt_array_l W _ _ hu .i64 ((65 : Int) - (n : Int) - 1) (by omega) (by rw [ha]; omega), hs, ha]
  have e : ((65 : Int) - (n : Int) - 1).toNat = 64 - n := by omega
  rw [e]
  show Result.ok (Value.slice (some (if 65 = 64 - n then (⟨g, 0, none⟩ : Addr) else (⟨g, 0, none⟩ : Addr).add ((64 - n) * 1))) (65 - (64 - n)) (65 - (64 - n))) W = _
  rw [if_neg (by omega), show 65 - (64 - n) = n + 1 by omega]
  have e2 : (⟨g, 0, none⟩ : Addr).add ((64 - n) * 1) = ⟨g, 64 - n, none⟩ := by unfold Addr.add; split <;> simp_all
  rw [e2]

set_option maxHeartbeats 1000000 in
set_option maxRecDepth 100000 in
theorem bits16 {w : World} (x : Nat) (hx : x < 65536) (h : w.cell? ⟨7, 15, none⟩ = some (.int .u8 4)) : Calls Tryz.prog 135 #[.slice none 0 0, .int .u64 (x : Int), .int .i64 16, .bool false, .bool false] w fun e w' => e = .returned (.tuple #[.slice none 0 0, .string ⟨(hexL x).toArray⟩]) ∧ Below w.heap.size w w' := by
  have H := Lib.hid (h : w.cell? ⟨7, 15, none⟩ = some (.int .u8 4))
  have h5 : 7 < w.heap.size := World.block_lt_of_cell? w _ h
  have TZ := fun o => tz_ (w := w.alloc o) ((((Below.refl w.heap.size w).alloc (Nat.le_refl _) o).cell (p := ⟨7, 15, none⟩) h5).trans h)
  clear h
  go_enter Tryz.func135, Tryz.ntmps135
  go_wp2_with (first
    | (go_at_call 150; refine pow2_.mono ?_; rintro e wf ⟨rfl, rfl⟩)
    | (go_at_call 151; refine (TZ _).mono ?_; rintro e wf ⟨rfl, rfl⟩))
  go_loopw [1, 13] (fun u i wr => ∃ (y : Nat) (t : List UInt8), t.length ≤ 15 ∧ y < 16 ^ (16 - t.length) ∧ u = .int .u64 (y : Int) ∧ i = .int .i64 ((65 : Int) - (t.length : Int)) ∧ RowKit.Hid (hexL x = hexL y ++ t) ∧ HexRow wr w.heap.size t ∧ Below w.heap.size w wr) (fun u _ _ => (intOf u).toNat)
  case atStart =>
    have hz : (Tryz.zeroCells210 : Array Value).size = 65 := by kernel_rfl
    exact ⟨x, [], by decide, by simp; omega, rfl, rfl, Lib.hid (by simp), ⟨⟨Tryz.zeroCells210, Blk.new _ _ _, hz, fun i hi => ⟨_, Array.getElem?_eq_getElem (by rw [hz]; exact hi)⟩, fun j hj => absurd hj (by simp)⟩⟩, (Below.refl _ _).alloc (Nat.le_refl _) _⟩
  case round =>
    obtain ⟨y, t, ht, hy, rfl, rfl, hx, hr, hB⟩ := hrel
    have hyt : y < 18446744073709551616 := Nat.lt_of_lt_of_le hy (Nat.le_trans (Nat.pow_le_pow_right (by decide) (show 16 - t.length ≤ 16 by omega)) (by decide))
    have hput := fun c => hr.put (by omega : t.length < 65) c
    obtain ⟨v, hv⟩ := hr.cell (64 - t.length) (by omega)
    have hf := hr.frozen (64 - t.length)
    have e1 : ((65 : Int) - (t.length : Int) - 1).toNat = 64 - t.length := by omega
    have h0 : (0 : Int) ≤ (65 : Int) - (t.length : Int) - 1 := by omega
    have hlt := (show w.heap.size < wr.heap.size by obtain ⟨cs, hb, _⟩ := hr.row; exact hb.lt)
    by_cases hc : 16 ≤ y
    · have hstep := hexL_step hx.out hc
      have Hstep := Lib.hid hstep
      clear hstep
      have hpow : y / 16 < 16 ^ (16 - (t.length + 1)) := by
        have : 16 ^ (16 - t.length) = 16 ^ (16 - (t.length + 1)) * 16 := by
          rw [← Nat.pow_succ]
          congr 1
          omega
        omega
      have hn : t.length + 1 ≤ 15 := by
        rcases Nat.lt_or_ge t.length 15 with h | h
        · omega
        · have : t.length = 15 := by omega
          rw [this] at hy
          omega
      have ea : bits .and .u64 (y : Int) 15 = ((y % 16 : Nat) : Int) := by
        have h := u64_and_nat y 15 hyt (by decide)
        rw [show ((15 : Nat) : Int) = 15 from rfl] at h
        rw [h, show (15 : Nat) = 2 ^ 4 - 1 from rfl, Nat.and_two_pow_sub_one_eq_mod]
      have hm : y % 16 < 16 := Nat.mod_lt _ (by decide)
      have hd := digits36_at (y % 16) hm
      have hP := hput (hexd (y % 16))
      rw [← hd] at hP
      have Hput := Lib.hid hP
      have HB := Lib.hid hB
      have Hpow := Lib.hid hpow
      have Hx := Lib.hid hx
      clear hx hd hP hput hB hr hy hpow
      go_wp2_with fail
      go_roundw
      case rel =>
        exact ⟨y / 16, hexd (y % 16) :: t, by simpa using hn, Hpow.out, by go_num, by rw [List.length_cons]; congr 1; omega, Hstep, Hput.out, HB.out.setCell (Nat.le_refl _) _⟩
      case measure => simp [intOf]; omega
    · have hlast := hexL_last hx.out (by omega)
      have Hlast := Lib.hid hlast
      clear hlast
      have hm : y < 16 := by omega
      have hd := digits36_at y hm
      have hP := hput (hexd y)
      have hback := run_convert_bytes_back (P := Tryz.prog) (wr.setCell ⟨w.heap.size, 64 - t.length, none⟩ (.int .u8 ((hexd y).toNat : Int))) 40 9 5 ⟨w.heap.size, 64 - t.length, none⟩ (t.length + 1) (hexd y :: t) Tryz.underlying40 Tryz.underlying5 Tryz.underlying9 (fun j hj => by
        obtain ⟨cs, hb, hs, ha, hcc⟩ := hP.row
        have e : (⟨w.heap.size, 64 - t.length, none⟩ : Addr).add j = ⟨w.heap.size, 64 - t.length + j, none⟩ := by unfold Addr.add; split <;> simp_all
        rw [e]
        refine (hb.cell _).trans ?_
        have := hcc j hj
        rw [List.length_cons] at this
        rw [← this]
        congr 1
        omega)
      rw [← hd] at hP hback
      have Hput := Lib.hid hP
      have HB := Lib.hid hB
      clear hx hd hP hput hB hr hy
      have hsl := slice65 w.heap.size t.length (by omega)
      rw [List.length_cons] at hback
      go_wp2_with fail
      go_ret2
      exact ⟨show Ending.returned (.tuple #[.slice none 0 0, .string ⟨(hexd y :: t).toArray⟩]) = _ by rw [Hlast.out], HB.out.setCell (Nat.le_refl _) _⟩
theorem fmt16_ {w : World} (x : Nat) (hx : x < 65536) (h : w.cell? ⟨7, 15, none⟩ = some (.int .u8 4)) : Calls Tryz.prog 118 #[.int .u64 (x : Int), .int .i64 16] w fun e w' => e = .returned (.string ⟨(hexL x).toArray⟩) ∧ Below w.heap.size w w' := by
  have H := Lib.hid (bits16 x hx h)
  clear h
  go_enter Tryz.func118, Tryz.ntmps118
  go_wp2_with (go_at_call 135; refine H.out.mono ?_; rintro e wf ⟨rfl, hb⟩; have Hb := Lib.hid hb; clear hb)
  go_ret
  exact ⟨rfl, Hb.out⟩
theorem fmt16 {w : World} (x : Nat) (hx : x < 65536) (h : w.cell? ⟨7, 15, none⟩ = some (.int .u8 4)) : Calls Tryz.prog 86 #[.int .u64 (x : Int), .int .i64 16] w fun e w' => e = .returned (.string ⟨(hexL x).toArray⟩) ∧ Below w.heap.size w w' := by
  have H := Lib.hid (fmt16_ x hx h)
  clear h
  go_enter Tryz.func86, Tryz.ntmps86
  go_wp2_with (go_at_call 118; refine H.out.mono ?_; rintro e wf ⟨rfl, hb⟩; have Hb := Lib.hid hb; clear hb)
  go_ret
  exact ⟨rfl, Hb.out⟩
end Go.Proofs.YtbiglifngfgffaaGreatDoor

/- Texts of addresses, the program's: numbers joined; an address of IPv4; the eight numbers of IPv6: the walks. -/
namespace Go.Proofs.YtbiglifngfgffaaGreatDoor
open Go.RowKit

theorem info_str : (Tryz.prog.info? 9).map (fun i => (i.zero, i.size, i.bytes)) = some (some (.string ByteArray.empty), 1, 16) := by kernel_rfl
theorem own_below {w w' : World} {base size n : Nat} {e : TypeId} {v : Value} {xs : List Value} (h : w.ownsRow base e size v n xs) (hb : Below w.heap.size w w') : w'.ownsRow base e size v n xs :=
  h.kept (row := none) ⟨hb.os, hb.tape, hb.output, hb.size, fun k hk _ => hb.block k hk⟩ (by
    cases hv : v.ownBlock with
    | none => exact Or.inl rfl
    | some k => exact Or.inr (by simp))
/- The texts that are owned. -/
def strs (L : List (List UInt8)) : List ByteArray := L.map fun l => ⟨l.toArray⟩
theorem strs_lists (L : List (List UInt8)) : (strs L).map (·.data.toList) = L := by
  unfold strs
  rw [List.map_map]
  conv => rhs; rw [← List.map_id L]
  exact List.map_congr_left fun l _ => by simp
theorem own_form {w : World} {base n : Nat} {e : TypeId} {v : Value} {xs : List Value} (h : w.ownsRow base e 1 v (n + 1) xs) : ∃ g cap, v = .slice (some ⟨g, 0, none⟩) (n + 1) cap := by
  rcases h.2 with ⟨_, h⟩ | ⟨g, cap, _, h, _⟩
  · omega
  · exact ⟨g, cap, h⟩
/- strings.Join of what is owned. -/
theorem join_own {w : World} {base : Nat} {v : Value} {L : List (List UInt8)} (c : UInt8) (h : w.ownsRow base 9 1 v L.length ((strs L).map Value.string)) (hl : L.length ≤ 1000) (hj : (Lib.join L [c]).length ≤ 4000000) : Calls Tryz.prog 20 #[v, .string ⟨#[c]⟩] w fun r w' => r = .returned (.string ⟨(Lib.join L [c]).toArray⟩) ∧ Below w.heap.size w w' := by
  have hl2 : (strs L).length = L.length := by simp [strs]
  rcases h.2 with ⟨rfl, hn⟩ | ⟨g, cap, cur, rfl, hg, hh, hcap, _, hsz, htake⟩
  · have : L = [] := List.eq_nil_of_length_eq_zero hn
    subst this
    exact (Tryz.strings_Join_none none 0 ⟨#[c]⟩ w).mono fun r w' hq => ⟨hq.1.trans rfl, by obtain ⟨_, hb⟩ := hq; first | exact hb | (subst hb; exact Below.refl _ _)⟩
  · have hcell := fun j hj => h.cellAt (g := g) (cap := cap) j hj
    have := Tryz.strings_Join g 0 cap (strs L) ⟨#[c]⟩ w (fun j x hx => by
      have hj : j < (strs L).length := (List.getElem?_eq_some_iff.1 hx).1
      rw [Nat.zero_add]
      refine (hcell j (by omega)).trans ?_
      rw [List.getElem?_map, hx]
      rfl) (h.lt g rfl).2 (by omega) (by omega) (by rw [strs_lists]; simpa using (show (Lib.join L [c]).length ≤ 140737488355328 by omega))
    rw [hl2, strs_lists] at this
    exact this
end Go.Proofs.YtbiglifngfgffaaGreatDoor

/- The program's reading of numbers between signs: the walk. -/
namespace Go.Proofs.YtbiglifngfgffaaGreatDoor
open Go.RowKit

theorem info_u64 : (Tryz.prog.info? 47).map (fun i => (i.zero, i.size, i.bytes)) = some (some (.int .u64 0), 1, 8) := by kernel_rfl
def cellsU (L : List Nat) : List Value := L.map fun x : Nat => Value.int .u64 (x : Int)
theorem cellsU_snoc (L : List Nat) (x : Nat) : cellsU (L ++ [x]) = cellsU L ++ [.int .u64 (x : Int)] := by simp [cellsU]
theorem own_shape {w : World} {base size n : Nat} {e : TypeId} {v : Value} {xs : List Value} (h : w.ownsRow base e size v n xs) : ∃ A cap, v = .slice A n cap := by
  rcases h.2 with ⟨rfl, rfl⟩ | ⟨g, cap, cur, rfl, _⟩
  · exact ⟨none, 0, rfl⟩
  · exact ⟨_, _, rfl⟩
theorem split1_size {c : UInt8} : ∀ {l x : List UInt8}, x ∈ split1 c l → x.length ≤ l.length := by
  intro l
  induction l with
  | nil => intro x hx; simp [split1] at hx; simp [hx]
  | cons a l ih =>
    intro x hx
    unfold split1 at hx
    split at hx
    · rcases List.mem_cons.1 hx with rfl | hx
      · simp
      · have := ih hx; simp; omega
    · split at hx
      · next e => exact absurd e (split1_ne c l)
      · next h t e =>
        rcases List.mem_cons.1 hx with rfl | hx
        · have := ih (x := h) (by rw [e]; exact List.mem_cons_self ..)
          simp; omega
        · have := ih (x := x) (by rw [e]; exact List.mem_cons_of_mem _ hx)
          simp; omega
theorem num1_bound {base B B' n : Nat} {l : List UInt8} (h : num1 base B l = some n) (hB : B' ≤ B) : num1 base B' l = if n < B' then some n else none := by
  unfold num1 at h ⊢
  split at h
  · cases h
  · next hl =>
    rw [if_neg hl]
    cases e : pval (dval base) base 0 l with
    | none => rw [e] at h; cases h
    | some m =>
      rw [e] at h
      simp only [Option.bind_some] at h ⊢
      split at h
      · cases h; rfl
      · cases h
theorem num1_none_of {base B B' : Nat} {l : List UInt8} (h : num1 base B l = none) (hB : B' ≤ B) : num1 base B' l = none := by
  cases e : num1 base B' l with
  | none => rfl
  | some n =>
    have hlt := num1_lt e
    unfold num1 at h e
    split at e
    · cases e
    · next hl =>
      rw [if_neg hl] at h
      cases e2 : pval (dval base) base 0 l with
      | none => rw [e2] at e; cases e
      | some m =>
        rw [e2] at e h
        simp only [Option.bind_some] at e h
        split at e
        · cases e
          rw [if_pos (by omega)] at h
          cases h
        · cases e

/- What numbers answers. -/
def NumGot (Lo : Option (List Nat)) (W : World) (r : Ending) (w' : World) : Prop := (match Lo with
  | none => r = .returned (.tuple #[.slice none 0 0, .bool false])
  | some L => ∃ v : Value, r = .returned (.tuple #[v, .bool true]) ∧ w'.ownsRow W.heap.size 47 1 v L.length (cellsU L)) ∧ Below W.heap.size W w'
theorem NumGot.bad {W w' : World} {Lo : Option (List Nat)} (h : Lo = none) (hb : Below W.heap.size W w') : NumGot Lo W (.returned (.tuple #[.slice none 0 0, .bool false])) w' := by rw [h]; exact ⟨rfl, hb⟩
theorem NumGot.good {W w' : World} {Lo : Option (List Nat)} {L : List Nat} {v : Value} (h : Lo = some L) (ho : w'.ownsRow W.heap.size 47 1 v L.length (cellsU L)) (hb : Below W.heap.size W w') : NumGot Lo W (.returned (.tuple #[v, .bool true])) w' := by rw [h]; exact ⟨⟨v, rfl, ho⟩, hb⟩

set_option maxHeartbeats 4000000 in
set_option maxRecDepth 100000 in
theorem numbers_any {w : World} (env : Env w) (s : ByteArray) (hs : s.size ≤ 2000000) (c : UInt8) (base most : Nat) (hmost : most < 18446744073709551616) (hbase : base ≤ 16)
    (hpu : ∀ v, Env v → ∀ t : ByteArray, t.size ≤ 4000000 → Calls Tryz.prog 125 #[.string t, .int .i64 (base : Int), .int .i64 64] v (PuGot base 18446744073709551616 t.data.toList v)) :
    Calls Tryz.prog 141 #[.string s, .string ⟨#[c]⟩, .int .i64 (base : Int), .int .u64 (most : Int)] w (NumGot (numbersL c base (most + 1) s.data.toList) w) := by
  obtain ⟨i0, hi, hz0, hz1, hz2⟩ := info_parts info_u64
  have Henv := Lib.hid env
  have Hpu := Lib.hid hpu
  clear hpu
  by_cases hne : s.size = 0
  · have he : s = ⟨#[]⟩ := by
      apply ByteArray.ext
      exact Array.eq_empty_of_size_eq_zero hne
    rw [he]
    have hL : numbersL c base (most + 1) (⟨#[]⟩ : ByteArray).data.toList = some [] := rfl
    rw [hL]
    clear env hne hmost
    go_enter Tryz.func141, Tryz.ntmps141
    go_wp2_with fail
    go_ret2
    exact NumGot.good (v := .slice none 0 0) rfl (World.ownsRow_nil _ _ _ _) (Below.refl _ _)
  have hemp : s.toList.isEmpty = false := by
    rw [← decide_eq_emptyBytes]
    exact decide_eq_false (fun h => hne (by rw [h]; rfl))
  have hsl : s.data.toList.length = s.size := (Lib.size_eq s).symm
  have hnl : s.data.toList ≠ [] := fun e => hne (by rw [← hsl, e]; rfl)
  have hnum : numbersL c base (most + 1) s.data.toList = gather base (most + 1) (split1 c s.data.toList) [] := by unfold numbersL; rw [if_neg hnl]
  rw [hnum]
  have hsp := splitB_one s ⟨#[c]⟩ c rfl
  have hpl : ∀ t ∈ split1 c s.data.toList, t.length ≤ s.size := fun t ht => by have := split1_size ht; omega
  obtain ⟨m, hm⟩ := env.mx
  have HS := Lib.hid (Tryz.strings_Split s ⟨#[c]⟩ m w (by omega) hm (show 1 ≤ 1 from Nat.le_refl _))
  clear hm env hnum hnl hne
  generalize hP : Lib.splitB ⟨#[c]⟩ 0 (Lib.countB s ⟨#[c]⟩) s = P at hsp HS
  have hcount : Lib.countB s ⟨#[c]⟩ + 1 = P.length := by
    have := Lib.splitB_all (⟨#[c]⟩ : ByteArray) (show 1 ≤ 1 from Nat.le_refl _) 0 (Lib.countB s ⟨#[c]⟩) s rfl
    rw [hP] at this
    omega
  rw [hcount] at HS
  have hPl : P.length ≤ s.size + 1 := by
    have := congrArg List.length hsp
    rw [List.length_map] at this
    rw [this]
    have := split1_length c s.data.toList
    omega
  clear hP hcount hsl
  have hPat : ∀ k (hk : k < P.length), (split1 c s.data.toList).drop k = (P[k]'hk).data.toList :: (split1 c s.data.toList).drop (k + 1) ∧ (P[k]'hk).size ≤ 2000000 := by
    intro k hk
    have hkQ : k < (split1 c s.data.toList).length := by rw [← hsp, List.length_map]; exact hk
    have e : (split1 c s.data.toList)[k]'hkQ = (P[k]'hk).data.toList := by
      have : (P.map (·.data.toList))[k]'(by rw [List.length_map]; exact hk) = (P[k]'hk).data.toList := by simp
      rw [← this]
      congr 1
      exact hsp.symm
    refine ⟨by rw [List.drop_eq_getElem_cons hkQ, e], ?_⟩
    have h := hpl _ (List.getElem_mem hkQ)
    rw [e, ← Lib.size_eq] at h
    omega
  have hQl : (split1 c s.data.toList).length = P.length := by rw [← hsp, List.length_map]
  generalize split1 c s.data.toList = Q at hPat hQl ⊢
  have HPat := Lib.hid hPat
  have HQl := Lib.hid hQl
  have HPl := Lib.hid hPl
  clear hsp hpl hPat hQl hPl
  obtain ⟨N, hN⟩ : ∃ n, n = P.length := ⟨_, rfl⟩
  rw [← hN] at HS HPl HQl
  have hNs : N ≤ 2000001 := by have := HPl.out; omega
  have HN := Lib.hid hN
  clear hN
  obtain ⟨GR, hGR⟩ : ∃ g, g = gather base (most + 1) Q [] := ⟨_, rfl⟩
  rw [← hGR]
  have HGR := Lib.hid hGR
  clear hGR
  go_enter Tryz.func141, Tryz.ntmps141
  go_wp2_with (go_at_call 26; (with_reducible refine HS.out.mono ?_); rintro r w1 ⟨rfl, rfl⟩)
  have hrow : Blk (w.alloc (.cells (P.map Value.string).toArray 9)) w.heap.size 9 (P.map Value.string).toArray := Blk.new _ _ _
  have hb0 := boxed w (.cells (P.map Value.string).toArray 9)
  generalize w.alloc (.cells (P.map Value.string).toArray 9) = W0 at hrow hb0 ⊢
  have Hrow := Lib.hid hrow
  have Hb0 := Lib.hid hb0
  clear hrow hb0
  go_loopw [10, 21] (fun v10 v21 wr => ∃ (k : Nat) (acc : List Nat) (A : Option Addr) (cap : Nat), k ≤ N ∧ v21 = .int .i64 (k : Int) ∧ v10 = .slice A acc.length cap ∧ acc.length ≤ 9 ∧ RowKit.Hid (wr.ownsRow W0.heap.size 47 1 (.slice A acc.length cap) acc.length (cellsU acc)) ∧ RowKit.Hid (Below W0.heap.size W0 wr) ∧ RowKit.Hid (GR = gather base (most + 1) (Q.drop k) acc)) (fun _ v21 _ => N - (intOf v21).toNat)
  case atStart => exact ⟨0, [], none, 0, Nat.zero_le _, rfl, rfl, by simp, Lib.hid (World.ownsRow_nil _ _ _ _), Lib.hid (Below.refl _ _), HGR⟩
  case round =>
    obtain ⟨k, acc, A, cap, hk, rfl, rfl, hal, hown, hb, hg⟩ := hrel
    by_cases hlt : k < N
    · have hkP : k < P.length := by have := HN.out; omega
      have hp := HPat.out k hkP
      have cx := (hb.out.cell (p := ⟨w.heap.size, k, none⟩) Hrow.out.lt).trans (Hrow.out.cell k)
      rw [List.getElem?_toArray, List.getElem?_map, List.getElem?_eq_getElem hkP] at cx
      simp only [Option.map_some] at cx
      generalize P[k]'hkP = T at hp cx
      have hg2 := hg.out
      rw [hp.1] at hg2
      have HF := Lib.hid (Hpu.out wr ((Henv.out.below Hb0.out).below hb.out) T (by have := hp.2; omega))
      generalize T.data.toList = t at hp hg2 HF
      have Hg2 := Lib.hid hg2
      clear hp hg2 hg
      go_wp2_with fail
      go_at_call 125
      refine HF.out.mono ?_
      rintro e w2 ⟨⟨n, hn, rfl⟩ | ⟨hn, n, tp, p, hn64, rfl⟩, hb2⟩
      · have hb3 := Lib.hid (after hb.out hb2)
        have hsz3 : w.heap.size ≤ w2.heap.size := Nat.le_trans Hb0.out.size hb3.out.size
        have ho3 := Lib.hid (own_below hown.out hb2)
        have hb1 := num1_bound hn (B' := most + 1) (by omega)
        have hn64 := num1_lt hn
        clear hn hb2 cx
        by_cases hnm : most < n
        · have hGR : GR = none := by
            rw [Hg2.out]
            unfold gather
            rw [hb1, if_neg (by omega)]
          have HGR2 := Lib.hid hGR
          have hq : (most : Int) < (n : Int) := by omega
          clear hGR hb1
          go_wp2_with fail
          go_ret2
          exact NumGot.bad HGR2.out (after Hb0.out hb3.out)
        · have hq : ¬ (most : Int) < (n : Int) := by omega
          rw [if_pos (by omega)] at hb1
          by_cases h8 : 8 < acc.length
          · have hGR : GR = none := by
              rw [Hg2.out]
              unfold gather
              rw [hb1]
              simp only
              rw [if_pos h8]
            have HGR2 := Lib.hid hGR
            clear hGR hb1
            go_wp2_with fail
            go_ret2
            exact NumGot.bad HGR2.out (after Hb0.out hb3.out)
          · have hGR : GR = gather base (most + 1) (Q.drop (k + 1)) (acc ++ [n]) := by
              rw [Hg2.out]
              conv => lhs; unfold gather
              rw [hb1]
              simp only
              rw [if_neg h8]
            have HGR2 := Lib.hid hGR
            clear hGR hb1
            go_wp2_with (at_builtin; refine wpList_append_own _ rfl _ _ 197 rfl W0.heap.size 47 i0 (.int .u64 0) 1 8 Tryz.underlying197 hi hz0 hz1 hz2 rfl (by decide) _ acc.length _ rfl (ho3.out.alloc _) ⟨w2.heap.size, 0, none⟩ 1 1 [.int .u64 (n : Int)] rfl rfl (cell_one_new _ _ _) (fun x hx => by simp at hx; subst hx; rfl) (by unfold maxLen; omega) (by omega) (by have := hb3.out.size; simp; omega) ?_; intro v' w3 hown' hgrow3 hnil3; have Ho4 := Lib.hid hown'; have hbW := Lib.hid ((hb3.out.alloc (hb3.out.size) _).grown hgrow3 (by have := hb3.out.size; simp; omega) (fun q hq => (ho3.out.lt q hq).1)); clear hown' hgrow3 hnil3)
            obtain ⟨A', cap', rfl⟩ := own_shape Ho4.out
            go_roundw
            case rel => exact ⟨k + 1, acc ++ [n], A', cap', by omega, by go_num, by rw [List.length_append]; rfl, by rw [List.length_append, List.length_singleton]; omega, Lib.hid (by rw [cellsU_snoc, List.length_append]; exact Ho4.out), hbW, HGR2⟩
            case measure => simp [intOf]; omega
      · have hb3 := Lib.hid (after hb.out hb2)
        have hb1 := num1_none_of hn (B' := most + 1) (by omega)
        have hGR : GR = none := by
          rw [Hg2.out]
          unfold gather
          rw [hb1]
        have HGR2 := Lib.hid hGR
        clear hGR hb1 hn hb2 cx
        go_wp2_with fail
        go_ret2
        exact NumGot.bad HGR2.out (after Hb0.out hb3.out)
    · obtain rfl : k = N := by omega
      have hend : GR = some acc := by
        rw [hg.out, List.drop_of_length_le (by have := HQl.out; omega)]
        rfl
      have Hend := Lib.hid hend
      clear hend hg
      go_wp2_with fail
      go_ret2
      exact NumGot.good (v := .slice A acc.length cap) Hend.out (hown.out.mono Hb0.out.size) (after Hb0.out hb.out)
end Go.Proofs.YtbiglifngfgffaaGreatDoor

/- A line's words: the walk. -/
namespace Go.Proofs.YtbiglifngfgffaaGreatDoor
open Go.RowKit
attribute [local go_sem ↓] Go.wp_at_zero Go.wp_at_succ

/- A row of words as it lies in memory: each with its line and its place. -/
def wcells (n : Nat) : Nat → List ByteArray → List Value
  | _, [] => []
  | i, s :: r => .string s :: .int .i64 (n : Int) :: .int .i64 (i : Int) :: wcells n (i + 1) r
theorem wcells_snoc (n : Nat) (s : ByteArray) : ∀ (ws : List ByteArray) (i : Nat), wcells n i (ws ++ [s]) = wcells n i ws ++ [.string s, .int .i64 (n : Int), .int .i64 ((i + ws.length : Nat) : Int)] := by
  intro ws
  induction ws with
  | nil => intro i; rfl
  | cons x r ih =>
    intro i
    rw [List.cons_append, wcells, ih, wcells, List.length_cons, show i + 1 + r.length = i + (r.length + 1) by omega]
    rfl
theorem wcells_at (n : Nat) : ∀ (ws : List ByteArray) (i k : Nat) (s : ByteArray), ws[k]? = some s → (wcells n i ws)[k * 3]? = some (.string s) ∧ (wcells n i ws)[k * 3 + 1]? = some (.int .i64 (n : Int)) ∧ (wcells n i ws)[k * 3 + 2]? = some (.int .i64 ((i + k : Nat) : Int)) := by
  intro ws
  induction ws with
  | nil => intro i k s h; cases h
  | cons x r ih =>
    intro i k s h
    cases k with
    | zero =>
      injection h with h
      subst h
      exact ⟨rfl, rfl, rfl⟩
    | succ k =>
      obtain ⟨h1, h2, h3⟩ := ih (i + 1) k s h
      rw [show (k + 1) * 3 = k * 3 + 1 + 1 + 1 by omega, wcells]
      simp only [List.getElem?_cons_succ]
      rw [show i + (k + 1) = i + 1 + k by omega]
      exact ⟨h1, h2, h3⟩
theorem cells_new (w : World) (xs : List Value) (t : TypeId) : ∀ j u, xs[j]? = some u → (w.alloc (.cells xs.toArray t)).cell? ((⟨w.heap.size, 0, none⟩ : Addr).add j) = some u := by
  intro j u h
  have := (Blk.new w t xs.toArray).cell j
  rw [List.getElem?_toArray, h] at this
  rw [← this]
  congr 1
  simp [Addr.add]
  exact fun h => h.symm
theorem info_word : (Tryz.prog.info? 89).map (fun i => (i.zero, i.size, i.bytes)) = some (some (.agg #[.string ⟨#[]⟩, .int .i64 0, .int .i64 0]), 3, 32) := by kernel_rfl
theorem isBlank_any (x : Nat) (hx : x ≤ 1114111) (w : World) : Calls Tryz.prog 55 #[.int .i32 (x : Int)] w (Got (.bool (blankR x)) w) := by
  have hb0 := Below.refl w.heap.size w
  unfold blankR
  by_cases h1 : x = 32
  · subst h1
    go_enter Tryz.func55, Tryz.ntmps55
    go_wp2_with fail
    go_ret
    exact ⟨rfl, hb0⟩
  · have q1 : ((x : Int) == 32) = false := by simp; omega
    rw [decide_eq_false h1, Bool.false_or]
    by_cases h2 : x = 9
    · subst h2
      clear h1
      go_enter Tryz.func55, Tryz.ntmps55
      go_wp2_with fail
      go_ret
      exact ⟨rfl, hb0⟩
    · have q2 : ((x : Int) == 9) = false := by simp; omega
      rw [decide_eq_false h2]
      clear h1 h2
      go_enter Tryz.func55, Tryz.ntmps55
      go_wp2_with fail
      go_ret
      exact ⟨rfl, hb0⟩
/- What split hands back. -/
def Split (n : Nat) (ws : List ByteArray) (w : World) (r : Ending) (w' : World) : Prop := ∃ v, r = .returned v ∧ w'.ownsRow w.heap.size 89 3 v ws.length (wcells n 0 ws) ∧ Below w.heap.size w w'
theorem takeWhile_step (F : List ByteArray) (k : Nat) (hk : k < F.length) (p : ByteArray → Bool) (h : (F.take k).all p = true) : F.takeWhile p = if p F[k] = true then F.take (k + 1) ++ (F.drop (k + 1)).takeWhile p else F.take k := by
  have e : F = F.take k ++ F[k] :: F.drop (k + 1) := by rw [← List.drop_eq_getElem_cons hk]; exact (List.take_append_drop k F).symm
  conv => lhs; rw [e]
  rw [List.takeWhile_append_of_pos (fun x hx => List.all_eq_true.1 h x hx), List.takeWhile_cons, List.take_succ_eq_append_getElem hk]
  split
  · rw [List.append_assoc]; rfl
  · rw [List.append_nil]
theorem fieldsGo_ne : ∀ (l cur : List UInt8), ∀ x ∈ fieldsGo cur l, x ≠ [] := by
  intro l
  induction l with
  | nil =>
    intro cur x hx
    rw [fieldsGo] at hx
    split at hx
    · cases hx
    · next h => rw [List.mem_singleton.1 hx]; exact h
  | cons c r ih =>
    intro cur x hx
    rw [fieldsGo] at hx
    split at hx
    · split at hx
      · exact ih [] x hx
      · next h =>
        rcases List.mem_cons.1 hx with rfl | hx
        · exact h
        · exact ih [] x hx
    · exact ih _ x hx
theorem fieldsGo_len : ∀ (l cur : List UInt8), (fieldsGo cur l).length ≤ l.length + 1 ∧ ∀ x ∈ fieldsGo cur l, x.length ≤ cur.length + l.length := by
  intro l
  induction l with
  | nil =>
    intro cur
    rw [fieldsGo]
    split
    · exact ⟨by simp, fun x hx => (by cases hx)⟩
    · exact ⟨by simp, fun x hx => by rw [List.mem_singleton.1 hx]; simp⟩
  | cons c r ih =>
    intro cur
    rw [fieldsGo]
    split
    · obtain ⟨h1, h2⟩ := ih []
      split
      · exact ⟨by simp; omega, fun x hx => by have := h2 x hx; simp at this ⊢; omega⟩
      · refine ⟨by simp; omega, fun x hx => ?_⟩
        rcases List.mem_cons.1 hx with rfl | hx
        · simp
        · have := h2 x hx; simp at this ⊢; omega
    · obtain ⟨h1, h2⟩ := ih (cur ++ [c])
      exact ⟨by simp; omega, fun x hx => by have := h2 x hx; simp at this ⊢; omega⟩

set_option maxHeartbeats 8000000 in
set_option maxRecDepth 100000 in
theorem split_any (s : ByteArray) (hs : s.size ≤ 2000000) (n : Nat) (hn : n ≤ 4000000) (w : World) : Calls Tryz.prog 27 #[.string s, .int .i64 (n : Int)] w (Split n (wordsL s.data.toList) w) := by
  obtain ⟨i0, hi, hz0, hz1, hz2⟩ := info_parts info_word
  have hff := Tryz.strings_FieldsFunc_grows 55 #[] (fun args w => rfl) blankR s w (by omega) (fun W x hx _ => isBlank_any x hx W)
  rw [fields_are] at hff
  have hpl := fieldsGo_len s.data.toList []
  have hne := fieldsGo_ne s.data.toList []
  have hlen : s.data.toList.length = s.size := by rw [Array.length_toList]; rfl
  have hwd : wordsL s.data.toList = ((fieldsB s.data.toList).map ofL).takeWhile (fun b => plainWord b.data.toList) := by
    unfold wordsL
    rw [List.takeWhile_map]
    rfl
  rw [hwd]
  have hF : ∀ b ∈ (fieldsB s.data.toList).map ofL, 0 < b.size ∧ b.size ≤ 2000000 := by
    intro b hb
    obtain ⟨x, hx, rfl⟩ := List.mem_map.1 hb
    have h1 := hne x hx
    have h2 := hpl.2 x hx
    have : (ofL x).size = x.length := by unfold ofL; simp [ByteArray.size]
    rw [this]
    cases x with
    | nil => exact absurd rfl h1
    | cons c r => simp at h2 ⊢; omega
  have hFl : ((fieldsB s.data.toList).map ofL).length ≤ 2000001 := by
    rw [List.length_map]
    have := hpl.1
    unfold fieldsB
    omega
  generalize (fieldsB s.data.toList).map ofL = F at hff hF hFl ⊢
  clear hpl hne hlen hwd
  obtain ⟨N, hN⟩ : ∃ n, n = F.length := ⟨_, rfl⟩
  rw [← hN] at hff hFl
  have HFF := Lib.hid hff
  have HF := Lib.hid hF
  have HN := Lib.hid hN
  obtain ⟨WS, hWS⟩ : ∃ x, x = F.takeWhile (fun b => plainWord b.data.toList) := ⟨_, rfl⟩
  rw [← hWS]
  have HWS := Lib.hid hWS
  clear hff hF hN hWS hs
  go_enter Tryz.func27, Tryz.ntmps27
  go_wp2_with (go_at_call 54; (with_reducible refine HFF.out.mono ?_); rintro r w1 ⟨g, rfl, hg, hown, hb1⟩)
  have hrow : ∀ k (hk : k < F.length), w1.cell? ⟨g, k, none⟩ = some (.string F[k]) := by
    intro k hk
    rw [hown.cellAt k (by have := HN.out; omega), List.getElem?_map, List.getElem?_eq_getElem hk]
    rfl
  have hgl := hown.lt g rfl
  have Hrow := Lib.hid hrow
  have Hb1 := Lib.hid hb1
  clear hrow hown hb1
  go_loopw [4, 10] (fun v4 v10 wr => ∃ (k : Nat) (A : Option Addr) (cap : Nat), k ≤ N ∧ v10 = .int .i64 (k : Int) ∧ v4 = .slice A k cap ∧ RowKit.Hid (wr.ownsRow w1.heap.size 89 3 (.slice A k cap) k (wcells n 0 (F.take k))) ∧ RowKit.Hid (Below w1.heap.size w1 wr) ∧ RowKit.Hid ((F.take k).all (fun b => plainWord b.data.toList) = true)) (fun _ v10 _ => N - (intOf v10).toNat)
  case atStart => exact ⟨0, none, 0, Nat.zero_le _, rfl, rfl, Lib.hid (World.ownsRow_nil _ _ _ _), Lib.hid (Below.refl _ _), Lib.hid rfl⟩
  case round =>
    obtain ⟨k, A, cap, hk, rfl, rfl, hown, hb, hall⟩ := hrel
    by_cases hlt : k < N
    · have hkF : k < F.length := by have := HN.out; omega
      have cx := (hb.out.cell (p := ⟨g, k, none⟩) hgl.2).trans (Hrow.out k hkF)
      have hT := HF.out _ (List.getElem_mem hkF)
      have hstep := takeWhile_step F k hkF _ hall.out
      have htk := List.take_succ_eq_append_getElem hkF
      have hlk : (F.take k).length = k := List.length_take_of_le (by omega)
      have hw3 := wcells_snoc n F[k] (F.take k) 0
      rw [hlk, Nat.zero_add] at hw3
      generalize F[k] = TT at cx hT hstep htk hw3
      have h0 : 0 < TT.size := hT.1
      have hpw : plainWord TT.data.toList = decide ((TT[0]'h0).toNat ≠ 35) := by
        have hl : TT.data.toList.length = TT.size := by rw [Array.length_toList]; rfl
        have e0 : TT.data.toList[0]? = some (TT[0]'h0) := by
          rw [List.getElem?_eq_getElem (by omega)]
          simp
          rfl
        cases hs : TT.data.toList with
        | nil => rw [hs] at hl; simp at hl; omega
        | cons c r =>
          rw [hs] at e0
          injection e0 with e0
          rw [← e0]
          unfold plainWord
          have : (c = 35) ↔ c.toNat = 35 := ⟨fun h => by rw [h]; rfl, fun h => UInt8.toNat_inj.1 h⟩
          simp [this]
      generalize hx : (TT[0]'h0).toNat = x0 at hpw
      by_cases h35 : x0 = 35
      · have hres : WS = F.take k := by rw [HWS.out, hstep, hpw, if_neg (by simp [h35])]
        have Hres := Lib.hid hres
        rw [h35] at hx
        clear hres hstep htk hw3 hpw hT
        have Hlk := Lib.hid hlk
        clear hlk
        go_wp2_with fail
        go_ret
        refine ⟨_, rfl, ?_, after Hb1.out hb.out⟩
        rw [Hres.out, Hlk.out]
        exact hown.out.mono Hb1.out.size
      · have q1 : ((x0 : Int) == 35) = false := by simp; omega
        have hall2 : (F.take (k + 1)).all (fun b => plainWord b.data.toList) = true := by
          rw [htk, List.all_append, hall.out]
          simp [hpw, h35]
        have Hall2 := Lib.hid hall2
        have Htk := Lib.hid htk
        have Hw3 := Lib.hid hw3
        clear hall2 hstep htk hw3 hpw hT h35 hlk
        go_wp2_with (at_builtin; refine wpList_append_own _ rfl _ _ 78 rfl w1.heap.size 89 i0 (.agg #[.string ⟨#[]⟩, .int .i64 0, .int .i64 0]) 3 32 Tryz.underlying78 hi hz0 hz1 hz2 rfl (by decide) _ k _ rfl (hown.out.alloc _) ⟨wr.heap.size, 0, none⟩ 1 1 [.string TT, .int .i64 (n : Int), .int .i64 (k : Int)] rfl rfl (cells_new _ _ _) (by intro u hu; simp at hu; rcases hu with rfl | rfl | rfl <;> rfl) (by unfold maxLen; omega) (by omega) (by have := hb.out.size; simp; omega) ?_; intro v' w3 hown' hgrow3 hnil3; have Ho4 := Lib.hid hown'; have hbW := Lib.hid ((hb.out.alloc (hb.out.size) _).grown hgrow3 (by have := hb.out.size; simp; omega) (fun q hq => (hown.out.lt q hq).1)); clear hown' hgrow3 hnil3)
        obtain ⟨A', cap', rfl⟩ := own_shape Ho4.out
        go_roundw
        case rel => exact ⟨k + 1, A', cap', by omega, by go_num, rfl, Lib.hid (by rw [Htk.out, Hw3.out]; exact Ho4.out), hbW, Hall2⟩
        case measure => simp [intOf]; omega
    · obtain rfl : k = N := by omega
      have hres : WS = F := by
        have h2 := hall.out
        rw [List.take_of_length_le (by have := HN.out; omega)] at h2
        rw [HWS.out]
        exact takeWhile_all _ _ fun x hx => List.all_eq_true.1 h2 x hx
      have Hres := Lib.hid hres
      clear hres
      go_wp2_with fail
      go_ret
      refine ⟨_, rfl, ?_, after Hb1.out hb.out⟩
      have := hown.out.mono Hb1.out.size
      rw [List.take_of_length_le (by have := HN.out; omega)] at this
      rw [Hres.out, ← HN.out]
      exact this
end Go.Proofs.YtbiglifngfgffaaGreatDoor
