/- Joined out of: PlV PxL. -/
import Derived.Test.YtbiglifngfgffaaGreatDoorLaa
import Derived.Test.YtbiglifngfgffaaGreatDoorLar
import Derived.Test.YtbiglifngfgffaaGreatDoorLaq
set_option linter.unusedVariables false
set_option linter.unusedSimpArgs false

/- A policy is read (Parse): the walk. -/
namespace Go.Proofs.YtbiglifngfgffaaGreatDoor
open Go.RowKit
attribute [local go_sem ↓] Go.wp_at_zero Go.wp_at_succ

set_option maxHeartbeats 8000000 in
set_option maxRecDepth 100000 in
theorem parse_long {w : World} (s : ByteArray) (hs : s.size ≤ 2000000) (hl : 8192 < s.size) : Calls Tryz.prog 11 #[.string s] w (ParseGot s.data.toList w) := by
  have q : (8192 : Int) < (s.size : Int) := by omega
  have hp : parseP s.data.toList = (Po.zero, (4, 0, 0)) := by
    unfold parseP
    rw [if_pos (by rw [show s.data.toList.length = s.size from (Lib.size_eq s).symm]; exact hl)]
  have B1 := Blk.new w 26 #[.slice none 0 0, .slice none 0 0, .slice none 0 0, .slice none 0 0]
  have b1 := boxed w (.cells #[.slice none 0 0, .slice none 0 0, .slice none 0 0, .slice none 0 0] 26)
  have B2 := Blk.new (w.alloc (.cells #[.slice none 0 0, .slice none 0 0, .slice none 0 0, .slice none 0 0] 26)) 34 #[.int .i64 4, .int .i64 0, .int .i64 0]
  have b2 := boxed (w.alloc (.cells #[.slice none 0 0, .slice none 0 0, .slice none 0 0, .slice none 0 0] 26)) (.cells #[.int .i64 4, .int .i64 0, .int .i64 0] 34)
  have HB2 := Lib.hid B2
  have HB1 := Lib.hid (B1.below b2 B1.lt)
  have Hb := Lib.hid (after b1 b2)
  have Hp := Lib.hid hp
  clear B1 B2 b1 b2 hp hl hs
  go_enter_defers Tryz.func11, Tryz.ntmps11
  go_wp2_with fail
  show Leaves _ _ _ _ [] .returning _
  refine ⟨_, results_cc rfl rfl (load4 HB1.out) (load3 ?_), ParseGot.bad Hp.out Hb.out⟩
  simpa using HB2.out

set_option maxHeartbeats 16000000 in
set_option maxRecDepth 100000 in
theorem parse_short {w : World} (env : Env w) (s : ByteArray) (hl : ¬ 8192 < s.size) : Calls Tryz.prog 11 #[.string s] w (ParseGot s.data.toList w) := by
  have hmf : ∀ (fn : Fn) (first cap : Array Value) (w : World), (Instr.makeFunc fn first cap).run Tryz.prog w = .ok (.func fn first cap) w := fun _ _ _ _ => rfl
  have q : ¬ (8192 : Int) < (s.size : Int) := by omega
  have hp := parse_end (s := s.data.toList) (by rw [show s.data.toList.length = s.size from (Lib.size_eq s).symm]; exact hl)
  rw [← splitP_lists] at hp
  have hFl := splitP_length 10 s
  have hFs := splitP_size (c := 10) (s := s)
  obtain ⟨LS, hLS⟩ : ∃ l, l = splitP 10 s := ⟨_, rfl⟩
  rw [← hLS] at hp hFl hFs
  obtain ⟨RES, hRES⟩ : ∃ r, r = linesP (LS.map (·.data.toList)) 1 ⟨Po.zero, []⟩ := ⟨_, rfl⟩
  rw [← hRES] at hp
  have Hp := Lib.hid hp
  have HRES := Lib.hid hRES
  have HFs := Lib.hid hFs
  have HEnv := Lib.hid env
  -- the three blocks that the call makes
  have PB1 := Blk.new w 26 #[.slice none 0 0, .slice none 0 0, .slice none 0 0, .slice none 0 0]
  have b1 := boxed w (.cells #[.slice none 0 0, .slice none 0 0, .slice none 0 0, .slice none 0 0] 26)
  have FB2 := Blk.new (w.alloc (.cells #[.slice none 0 0, .slice none 0 0, .slice none 0 0, .slice none 0 0] 26)) 34 #[.int .i64 0, .int .i64 0, .int .i64 0]
  have b2 := boxed (w.alloc (.cells #[.slice none 0 0, .slice none 0 0, .slice none 0 0, .slice none 0 0] 26)) (.cells #[.int .i64 0, .int .i64 0, .int .i64 0] 34)
  have RB3 := Blk.new ((w.alloc (.cells #[.slice none 0 0, .slice none 0 0, .slice none 0 0, .slice none 0 0] 26)).alloc (.cells #[.int .i64 0, .int .i64 0, .int .i64 0] 34)) 81 #[.slice none 0 0, .int .i64 0, .pointer (some ⟨w.heap.size, 0, none⟩), .slice none 0 0]
  have b3 := boxed ((w.alloc (.cells #[.slice none 0 0, .slice none 0 0, .slice none 0 0, .slice none 0 0] 26)).alloc (.cells #[.int .i64 0, .int .i64 0, .int .i64 0] 34)) (.cells #[.slice none 0 0, .int .i64 0, .pointer (some ⟨w.heap.size, 0, none⟩), .slice none 0 0] 81)
  have PB3 := (PB1.below b2 PB1.lt).below b3 (PB1.below b2 PB1.lt).lt
  have FB3 := FB2.below b3 FB2.lt
  have bb3 := after (after b1 b2) b3
  rw [show ((w.alloc (.cells #[.slice none 0 0, .slice none 0 0, .slice none 0 0, .slice none 0 0] 26)).alloc (.cells #[.int .i64 0, .int .i64 0, .int .i64 0] 34)).heap.size = w.heap.size + 1 + 1 by simp] at RB3
  rw [show (w.alloc (.cells #[.slice none 0 0, .slice none 0 0, .slice none 0 0, .slice none 0 0] 26)).heap.size = w.heap.size + 1 by simp] at FB3
  clear hp hRES hFs env PB1 b1 FB2 b2 b3
  go_enter_defers Tryz.func11, Tryz.ntmps11
  go_upto_region 5 with fail
  generalize ((((w.alloc (.cells #[.slice none 0 0, .slice none 0 0, .slice none 0 0, .slice none 0 0] 26)).alloc (.cells #[.int .i64 0, .int .i64 0, .int .i64 0] 34)).alloc (.cells #[.slice none 0 0, .int .i64 0, .pointer (some ⟨w.heap.size, 0, none⟩), .slice none 0 0] 81))) = w3 at PB3 FB3 RB3 bb3 ⊢
  obtain ⟨b, hb⟩ : ∃ b, b = w.heap.size + 1 + 1 := ⟨_, rfl⟩
  obtain ⟨F, hF⟩ : ∃ F, F = w.heap.size + 1 := ⟨_, rfl⟩
  obtain ⟨P, hP⟩ : ∃ P, P = w.heap.size := ⟨_, rfl⟩
  rw [← hb] at RB3 ⊢
  rw [← hF] at FB3 ⊢
  have PM3 : Pm w.heap.size w3 P (.slice none 0 0) ⟨.slice none 0 0, .slice none 0 0, .slice none 0 0, .slice none 0 0⟩ ⟨Po.zero, []⟩ := Pm.nil (by rw [hP]; exact PB3)
  have RD3 : RdB w3 b (.slice none 0 0) 0 P (.slice none 0 0) := by rw [hP]; exact RB3
  rw [← hP]
  have hbb : w.heap.size ≤ b := by omega
  have hPP : w.heap.size ≤ P := by omega
  have hFF : w.heap.size ≤ F := by omega
  have hPF : P ≠ F := by omega
  have HPF := Lib.hid hPF
  have hsp := split_call (HEnv.out.below bb3) s (by omega) 10
  obtain ⟨N, hN⟩ : ∃ n, n = LS.length := ⟨_, rfl⟩
  rw [← hLS, ← hN] at hsp
  rw [← hN] at hFl
  have HSp := Lib.hid hsp
  have HN := Lib.hid hN
  have HPM3 := Lib.hid PM3
  have HRD3 := Lib.hid RD3
  have HFB3 := Lib.hid FB3
  have Hbb3 := Lib.hid bb3
  clear hb hF hP hsp hN hLS PB3 PM3 RD3 RB3 FB3 bb3 hPF
  go_wp2_with (go_at_call 26; (with_reducible refine HSp.out.mono ?_); rintro r wq ⟨rfl, rfl⟩)
  have hrow : Blk (w3.alloc (.cells (LS.map Value.string).toArray 9)) w3.heap.size 9 (LS.map Value.string).toArray := Blk.new _ _ _
  have hb4 := boxed w3 (.cells (LS.map Value.string).toArray 9)
  have HRow := Lib.hid hrow
  have HPM4 := Lib.hid (HPM3.out.below hb4)
  have HRD4 := Lib.hid (HRD3.out.below hb4 HRD3.out.lt)
  have HFB4 := Lib.hid (HFB3.out.below hb4 HFB3.out.lt)
  have Hbb4 := Lib.hid (after Hbb3.out hb4)
  clear hrow hb4 HPM3 HRD3 HFB3 Hbb3 HSp
  generalize w3.alloc (.cells (LS.map Value.string).toArray 9) = w4 at HRow HPM4 HRD4 HFB4 Hbb4 ⊢
  generalize w3.heap.size = gS at HRow ⊢
  go_loopw [22] (fun v22 wr => ∃ (k : Nat) (lv : Value) (j : Nat) (uv : Value) (V : PoV) (bag : Bag), k ≤ N ∧ v22 = .int .i64 (k : Int) ∧ RowKit.Hid (RdB wr b lv j P uv) ∧ RowKit.Hid (Pm w.heap.size wr P uv V bag) ∧ RowKit.Hid (Blk wr F 34 #[.int .i64 0, .int .i64 0, .int .i64 0]) ∧ RowKit.Hid (Blk wr gS 9 (LS.map Value.string).toArray) ∧ RowKit.Hid (Below w.heap.size w wr) ∧ RowKit.Hid (RES = linesP ((LS.map (·.data.toList)).drop k) (k + 1) bag)) (fun v22 _ => N - (intOf v22).toNat)
  case atStart => exact ⟨0, _, 0, _, _, _, Nat.zero_le _, rfl, HRD4, HPM4, HFB4, HRow, Hbb4, HRES⟩
  case round =>
    obtain ⟨k, lv, j, uv, V, bag, hk, rfl, hrd, hpm, hfb, hrow, hbw, hres⟩ := hrel
    clear HRD4 HPM4 HFB4 HRow Hbb4 HRES
    by_cases hlt : k < N
    · have hkF : k < LS.length := by have := HN.out; omega
      have cx := hrow.out.cell k
      rw [List.getElem?_toArray, List.getElem?_map, List.getElem?_eq_getElem hkF] at cx
      simp only [Option.map_some] at cx
      have hres2 := hres.out
      rw [← List.map_drop, List.drop_eq_getElem_cons hkF, List.map_cons, linesP, List.map_drop] at hres2
      have hTs := HFs.out LS[k] (List.getElem_mem hkF)
      generalize LS[k]'hkF = T at cx hres2 hTs
      have hsplit := split_any T (by omega) (k + 1) (by omega) wr
      rw [show ((k + 1 : Nat) : Int) = (k : Int) + 1 by omega] at hsplit
      have hwl := words_len T.data.toList
      rw [show T.data.toList.length = T.size from (Lib.size_eq T).symm] at hwl
      generalize wordsL T.data.toList = ws at hsplit hres2 hwl
      have HSplit := Lib.hid hsplit
      have Hres2 := Lib.hid hres2
      have hwl1 := hwl.1
      have HWl := Lib.hid hwl.2
      have i1 : IntKind.i64.wrap ((k : Int) + 1) = (k : Int) + 1 := by rw [IntKind.wrap_i64]; omega
      clear hsplit hres2 hres hkF hwl
      go_upto_region 9 with (go_at_call 27; (with_reducible refine HSplit.out.mono ?_); rintro r w1 ⟨v, rfl, o1, d1⟩; obtain ⟨Av, cv, rfl⟩ := own_shape o1; have O1 := Lib.hid o1; clear o1; have RD1 := Lib.hid (hrd.out.below d1 hrd.out.lt); have c0 := RD1.out.cell 0; have c1 := RD1.out.cell 1; have z0 := RD1.out.frozen 0; have z1 := RD1.out.frozen 1; simp at c0 c1)
      obtain ⟨w2, hw2⟩ : ∃ x, x = (w1.setCell ⟨b, 0, none⟩ (.slice Av ws.length cv)).setCell ⟨b, 1, none⟩ (.int .i64 0) := ⟨_, rfl⟩
      rw [← hw2]
      have K2 : Keeps (fun x => x = b) w1 w2 := by rw [hw2]; exact ((Keeps.refl (fun x => x = b) w1).setCell (p := ⟨b, 0, none⟩) (Or.inl rfl) _).setCell (p := ⟨b, 1, none⟩) (Or.inl rfl) _
      have O2 : Off (fun x => x = b) w1 [81] := fun k hk => ⟨_, _, _, by subst hk; exact RD1.out, by simp⟩
      have RD2 : RowKit.Hid (RdB w2 b (.slice Av ws.length cv) 0 P uv) := Lib.hid (by rw [hw2]; exact Blk.set_ (Blk.set_ RD1.out 0 _) 1 _)
      have PM2 := Lib.hid ((hpm.out.below d1).reader K2 O2)
      have FB2 := Lib.hid ((hfb.out.below d1 hfb.out.lt).off K2 O2 (by decide))
      have RW2 := Lib.hid ((hrow.out.below d1 hrow.out.lt).off K2 O2 (by decide))
      have BW2 : RowKit.Hid (Below w.heap.size w w2) := Lib.hid (below_keeps (after hbw.out d1) K2 (fun k hk => by subst hk; exact hbb))
      have OV2 := Lib.hid (own_off O1.out K2 O2 (by decide))
      clear hw2 K2 O2 RD1 O1 hrd hpm hfb hrow hbw d1 c0 c1 z0 z1 cx i1 HSplit
      have c0 := RD2.out.cell 0
      simp at c0
      by_cases hws : ws.length = 0
      · obtain rfl := List.eq_nil_of_length_eq_zero hws
        have hR : RES = linesP ((LS.map (·.data.toList)).drop (k + 1)) (k + 1 + 1) bag := Hres2.out
        have HR := Lib.hid hR
        clear hR Hres2 hws
        go_wp2_with fail
        go_roundw
        case rel => exact ⟨k + 1, _, 0, uv, V, bag, by omega, by go_num, RD2, PM2, FB2, RW2, BW2, HR⟩
        case measure => simp [intOf]; omega
      have hws0 : ((ws.length : Int) == 0) = false := by simp; exact fun e => hws (by rw [e]; rfl)
      have hne : ws ≠ [] := fun e => hws (by rw [e]; rfl)
      obtain ⟨x, hx⟩ : ∃ x, ws[0]? = some x := ⟨_, List.getElem?_eq_getElem (by omega)⟩
      have RS2 : RowKit.Hid (Rs w2 b P 0 (k + 1) (.slice Av ws.length cv) uv ws) := Lib.hid ⟨RD2.out, ⟨_, OV2.out⟩, hne, by omega, fun s hs => by have := HWl.out s hs; omega⟩
      have HTk : RowKit.Hid (∀ u, Below w2.heap.size w2 u → Calls Tryz.prog 29 #[.pointer (some ⟨b, 0, none⟩)] u fun r w' => (Keeps (fun x => x = b) u w' ∧ Rs w' b P 1 (k + 1) (.slice Av ws.length cv) uv ws) ∧ r = .returned (.string x)) := Lib.hid fun u hu => ((RS2.out.below hu).take (Nat.zero_le _)).mono fun r w' ⟨h1, h2⟩ => ⟨h1, by unfold TakeR at h2; rw [hx] at h2; exact h2⟩
      have hbl : b < w2.heap.size := RD2.out.lt
      have hws1 : 1 ≤ ws.length := by omega
      clear hws hne
      go_upto_region 10 with fail
      by_cases x1 : x = W_group
      case pos =>
        subst x1
        go_upto_region 11 with (first
          | (go_at_call 28; (with_reducible refine (does_any _ b).mono ?_); rintro r w3 ⟨⟨m, c, rfl, hM3, hC3, hm3, hc3⟩, d3⟩; have HM3 := Lib.hid hM3; have HC3 := Lib.hid hC3; clear hM3 hC3)
          | (go_at_call 29; (with_reducible refine (HTk.out _ d3).mono ?_); rintro r w5 ⟨⟨d5, e5⟩, rfl⟩; have RS5 := Lib.hid e5; clear e5; have HM5 := Lib.hid (HM3.out.keep d5 (by omega)); have hlk := (does_has HM5.out).1))
        have O3 : Off (fun x => x = b) w3 [81] := fun k hk => ⟨_, _, _, by subst hk; exact (RS2.out.below d3).blk, by simp⟩
        have PM5 := Lib.hid ((PM2.out.below d3).reader d5 O3)
        have FB5 := Lib.hid ((FB2.out.below d3 FB2.out.lt).off d5 O3 (by decide))
        have RW5 := Lib.hid ((RW2.out.below d3 RW2.out.lt).off d5 O3 (by decide))
        have HC5 := Lib.hid (HC3.out.off d5 O3 (by decide))
        have BW5 : RowKit.Hid (Below w.heap.size w w5) := Lib.hid (below_keeps (after BW2.out d3) d5 (fun k hk => by subst hk; exact hbb))
        clear O3 d3 d5 HM3 HM5 HC3 hm3 hc3 hlk HTk RS2 RD2 PM2 FB2 RW2 BW2 OV2 c0
        have hun := RS5.out.unless (Nat.le_refl 1) (by omega) true 190
        have HUn : RowKit.Hid (Calls Tryz.prog 30 #[.pointer (some ⟨b, 0, none⟩), .bool true, .int .i64 190] w5 fun r w' => r = .returned (.tuple #[]) ∧ Below w5.heap.size w5 w') := Lib.hid hun
        clear hun
        go_upto_region 12 with (go_at_call 30; (with_reducible refine HUn.out.mono ?_); rintro r w6 ⟨rfl, d6⟩)
        have RS6 := Lib.hid (RS5.out.below d6)
        have PM6 := Lib.hid (PM5.out.below d6)
        have FB6 := Lib.hid (FB5.out.below d6 FB5.out.lt)
        have RW6 := Lib.hid (RW5.out.below d6 RW5.out.lt)
        have HC6 := Lib.hid (HC5.out.below d6 HC5.out.lt)
        have BW6 := Lib.hid (after BW5.out d6)
        clear RS5 PM5 FB5 RW5 HC5 BW5 d6 HUn
        have hcall := does1_any BW6.out hbb hPP RS6.out PM6.out hx HC6.out
        cases ho : lineP bag (k + 1) ws with
        | error e =>
          rw [ho] at hcall
          have HCall : RowKit.Hid (Calls Tryz.prog 56 #[.pointer (some ⟨c, 0, none⟩)] w6 fun r w' => LKeeps w.heap.size w6 w' ∧ r = PanicAt e.1 (k + 1) e.2 ∧ ErrP (α := Bag) w' P (.error e)) := Lib.hid hcall
          have hR := Hres2.out
          rw [ho] at hR
          simp only at hR
          have HR := Lib.hid hR
          clear hcall hR Hres2 ho
          go_wp2_with (go_at_call 56; (with_reducible refine HCall.out.mono ?_); rintro r w7 ⟨d7, rfl, p7⟩; unfold PanicAt)
          obtain ⟨p0, p1, p2, p3, hP7⟩ := p7 e rfl
          have hF7 := FB6.out.off d7 LKeeps.off (by decide)
          have hB7 := BW6.out.trans (d7.below BW6.out.size)
          exact door_panic rfl rfl hP7 hF7 HPF.out (fun w8 hk8 => ParseGot.bad (by rw [Hp.out, HR.out]; rfl) (below_keeps hB7 hk8 (fun q hq => hq.elim (fun e => by subst e; exact hPP) fun e => by subst e; exact hFF)))
        | ok bag' =>
          rw [ho] at hcall
          have HCall : RowKit.Hid (Calls Tryz.prog 56 #[.pointer (some ⟨c, 0, none⟩)] w6 fun r w' => LKeeps w.heap.size w6 w' ∧ r = .returned (.tuple #[]) ∧ ∃ k' uv' V', Rs w' b P k' (k + 1) (.slice Av ws.length cv) uv' ws ∧ Pm w.heap.size w' P uv' V' bag') := Lib.hid (hcall.mono fun r w' ⟨h1, ⟨h2, h3⟩, _⟩ => ⟨h1, h2, h3⟩)
          have hR := Hres2.out
          rw [ho] at hR
          simp only at hR
          have HR := Lib.hid hR
          clear hcall hR Hres2 ho
          go_wp2_with (go_at_call 56; (with_reducible refine HCall.out.mono ?_); rintro r w7 ⟨d7, rfl, k', uv', V', R7, M7⟩; have RS7 := Lib.hid R7; have PM7 := Lib.hid M7; clear R7 M7)
          have FB7 := Lib.hid (FB6.out.off d7 LKeeps.off (by decide))
          have RW7 := Lib.hid (RW6.out.off d7 LKeeps.off (by decide))
          have BW7 := Lib.hid (BW6.out.trans (d7.below BW6.out.size))
          go_roundw
          case rel => exact ⟨k + 1, _, k', uv', V', bag', by omega, by go_num, Lib.hid RS7.out.blk, PM7, FB7, RW7, BW7, HR⟩
          case measure => simp [intOf]; omega
      by_cases x2 : x = W_tag
      case pos =>
        subst x2
        go_upto_region 11 with (first
          | (go_at_call 28; (with_reducible refine (does_any _ b).mono ?_); rintro r w3 ⟨⟨m, c, rfl, hM3, hC3, hm3, hc3⟩, d3⟩; have HM3 := Lib.hid hM3; have HC3 := Lib.hid hC3; clear hM3 hC3)
          | (go_at_call 29; (with_reducible refine (HTk.out _ d3).mono ?_); rintro r w5 ⟨⟨d5, e5⟩, rfl⟩; have RS5 := Lib.hid e5; clear e5; have HM5 := Lib.hid (HM3.out.keep d5 (by omega)); have hlk := (does_has HM5.out).2.1))
        have O3 : Off (fun x => x = b) w3 [81] := fun k hk => ⟨_, _, _, by subst hk; exact (RS2.out.below d3).blk, by simp⟩
        have PM5 := Lib.hid ((PM2.out.below d3).reader d5 O3)
        have FB5 := Lib.hid ((FB2.out.below d3 FB2.out.lt).off d5 O3 (by decide))
        have RW5 := Lib.hid ((RW2.out.below d3 RW2.out.lt).off d5 O3 (by decide))
        have HC5 := Lib.hid (HC3.out.off d5 O3 (by decide))
        have BW5 : RowKit.Hid (Below w.heap.size w w5) := Lib.hid (below_keeps (after BW2.out d3) d5 (fun k hk => by subst hk; exact hbb))
        clear O3 d3 d5 HM3 HM5 HC3 hm3 hc3 hlk HTk RS2 RD2 PM2 FB2 RW2 BW2 OV2 c0
        have hun := RS5.out.unless (Nat.le_refl 1) (by omega) true 190
        have HUn : RowKit.Hid (Calls Tryz.prog 30 #[.pointer (some ⟨b, 0, none⟩), .bool true, .int .i64 190] w5 fun r w' => r = .returned (.tuple #[]) ∧ Below w5.heap.size w5 w') := Lib.hid hun
        clear hun
        go_upto_region 12 with (go_at_call 30; (with_reducible refine HUn.out.mono ?_); rintro r w6 ⟨rfl, d6⟩)
        have RS6 := Lib.hid (RS5.out.below d6)
        have PM6 := Lib.hid (PM5.out.below d6)
        have FB6 := Lib.hid (FB5.out.below d6 FB5.out.lt)
        have RW6 := Lib.hid (RW5.out.below d6 RW5.out.lt)
        have HC6 := Lib.hid (HC5.out.below d6 HC5.out.lt)
        have BW6 := Lib.hid (after BW5.out d6)
        clear RS5 PM5 FB5 RW5 HC5 BW5 d6 HUn
        have hcall := does2_any BW6.out hbb hPP RS6.out PM6.out hx HC6.out
        cases ho : lineP bag (k + 1) ws with
        | error e =>
          rw [ho] at hcall
          have HCall : RowKit.Hid (Calls Tryz.prog 58 #[.pointer (some ⟨c, 0, none⟩)] w6 fun r w' => LKeeps w.heap.size w6 w' ∧ r = PanicAt e.1 (k + 1) e.2 ∧ ErrP (α := Bag) w' P (.error e)) := Lib.hid hcall
          have hR := Hres2.out
          rw [ho] at hR
          simp only at hR
          have HR := Lib.hid hR
          clear hcall hR Hres2 ho
          go_wp2_with (go_at_call 58; (with_reducible refine HCall.out.mono ?_); rintro r w7 ⟨d7, rfl, p7⟩; unfold PanicAt)
          obtain ⟨p0, p1, p2, p3, hP7⟩ := p7 e rfl
          have hF7 := FB6.out.off d7 LKeeps.off (by decide)
          have hB7 := BW6.out.trans (d7.below BW6.out.size)
          exact door_panic rfl rfl hP7 hF7 HPF.out (fun w8 hk8 => ParseGot.bad (by rw [Hp.out, HR.out]; rfl) (below_keeps hB7 hk8 (fun q hq => hq.elim (fun e => by subst e; exact hPP) fun e => by subst e; exact hFF)))
        | ok bag' =>
          rw [ho] at hcall
          have HCall : RowKit.Hid (Calls Tryz.prog 58 #[.pointer (some ⟨c, 0, none⟩)] w6 fun r w' => LKeeps w.heap.size w6 w' ∧ r = .returned (.tuple #[]) ∧ ∃ k' uv' V', Rs w' b P k' (k + 1) (.slice Av ws.length cv) uv' ws ∧ Pm w.heap.size w' P uv' V' bag') := Lib.hid (hcall.mono fun r w' ⟨h1, ⟨h2, h3⟩, _⟩ => ⟨h1, h2, h3⟩)
          have hR := Hres2.out
          rw [ho] at hR
          simp only at hR
          have HR := Lib.hid hR
          clear hcall hR Hres2 ho
          go_wp2_with (go_at_call 58; (with_reducible refine HCall.out.mono ?_); rintro r w7 ⟨d7, rfl, k', uv', V', R7, M7⟩; have RS7 := Lib.hid R7; have PM7 := Lib.hid M7; clear R7 M7)
          have FB7 := Lib.hid (FB6.out.off d7 LKeeps.off (by decide))
          have RW7 := Lib.hid (RW6.out.off d7 LKeeps.off (by decide))
          have BW7 := Lib.hid (BW6.out.trans (d7.below BW6.out.size))
          go_roundw
          case rel => exact ⟨k + 1, _, k', uv', V', bag', by omega, by go_num, Lib.hid RS7.out.blk, PM7, FB7, RW7, BW7, HR⟩
          case measure => simp [intOf]; omega
      by_cases x3 : x = W_host
      case pos =>
        subst x3
        go_upto_region 11 with (first
          | (go_at_call 28; (with_reducible refine (does_any _ b).mono ?_); rintro r w3 ⟨⟨m, c, rfl, hM3, hC3, hm3, hc3⟩, d3⟩; have HM3 := Lib.hid hM3; have HC3 := Lib.hid hC3; clear hM3 hC3)
          | (go_at_call 29; (with_reducible refine (HTk.out _ d3).mono ?_); rintro r w5 ⟨⟨d5, e5⟩, rfl⟩; have RS5 := Lib.hid e5; clear e5; have HM5 := Lib.hid (HM3.out.keep d5 (by omega)); have hlk := (does_has HM5.out).2.2.1))
        have O3 : Off (fun x => x = b) w3 [81] := fun k hk => ⟨_, _, _, by subst hk; exact (RS2.out.below d3).blk, by simp⟩
        have PM5 := Lib.hid ((PM2.out.below d3).reader d5 O3)
        have FB5 := Lib.hid ((FB2.out.below d3 FB2.out.lt).off d5 O3 (by decide))
        have RW5 := Lib.hid ((RW2.out.below d3 RW2.out.lt).off d5 O3 (by decide))
        have HC5 := Lib.hid (HC3.out.off d5 O3 (by decide))
        have BW5 : RowKit.Hid (Below w.heap.size w w5) := Lib.hid (below_keeps (after BW2.out d3) d5 (fun k hk => by subst hk; exact hbb))
        clear O3 d3 d5 HM3 HM5 HC3 hm3 hc3 hlk HTk RS2 RD2 PM2 FB2 RW2 BW2 OV2 c0
        have hun := RS5.out.unless (Nat.le_refl 1) (by omega) true 190
        have HUn : RowKit.Hid (Calls Tryz.prog 30 #[.pointer (some ⟨b, 0, none⟩), .bool true, .int .i64 190] w5 fun r w' => r = .returned (.tuple #[]) ∧ Below w5.heap.size w5 w') := Lib.hid hun
        clear hun
        go_upto_region 12 with (go_at_call 30; (with_reducible refine HUn.out.mono ?_); rintro r w6 ⟨rfl, d6⟩)
        have RS6 := Lib.hid (RS5.out.below d6)
        have PM6 := Lib.hid (PM5.out.below d6)
        have FB6 := Lib.hid (FB5.out.below d6 FB5.out.lt)
        have RW6 := Lib.hid (RW5.out.below d6 RW5.out.lt)
        have HC6 := Lib.hid (HC5.out.below d6 HC5.out.lt)
        have BW6 := Lib.hid (after BW5.out d6)
        clear RS5 PM5 FB5 RW5 HC5 BW5 d6 HUn
        have hcall := line_hosts HEnv.out BW6.out hbb hPP RS6.out PM6.out hx
        cases ho : lineP bag (k + 1) ws with
        | error e =>
          rw [ho] at hcall
          have HCall : RowKit.Hid (Calls Tryz.prog 59 #[.pointer (some ⟨b, 0, none⟩)] w6 fun r w' => LKeeps w.heap.size w6 w' ∧ r = PanicAt e.1 (k + 1) e.2 ∧ ErrP (α := Bag) w' P (.error e)) := Lib.hid hcall
          have hR := Hres2.out
          rw [ho] at hR
          simp only at hR
          have HR := Lib.hid hR
          clear hcall hR Hres2 ho
          go_wp2_with (go_at_call 59; (with_reducible refine HCall.out.mono ?_); rintro r w7 ⟨d7, rfl, p7⟩; unfold PanicAt)
          obtain ⟨p0, p1, p2, p3, hP7⟩ := p7 e rfl
          have hF7 := FB6.out.off d7 LKeeps.off (by decide)
          have hB7 := BW6.out.trans (d7.below BW6.out.size)
          exact door_panic rfl rfl hP7 hF7 HPF.out (fun w8 hk8 => ParseGot.bad (by rw [Hp.out, HR.out]; rfl) (below_keeps hB7 hk8 (fun q hq => hq.elim (fun e => by subst e; exact hPP) fun e => by subst e; exact hFF)))
        | ok bag' =>
          rw [ho] at hcall
          have HCall : RowKit.Hid (Calls Tryz.prog 59 #[.pointer (some ⟨b, 0, none⟩)] w6 fun r w' => LKeeps w.heap.size w6 w' ∧ r = .returned (.tuple #[]) ∧ ∃ k' uv' V', Rs w' b P k' (k + 1) (.slice Av ws.length cv) uv' ws ∧ Pm w.heap.size w' P uv' V' bag') := Lib.hid (hcall.mono fun r w' ⟨h1, ⟨h2, h3⟩, _⟩ => ⟨h1, h2, h3⟩)
          have hR := Hres2.out
          rw [ho] at hR
          simp only at hR
          have HR := Lib.hid hR
          clear hcall hR Hres2 ho
          go_wp2_with (go_at_call 59; (with_reducible refine HCall.out.mono ?_); rintro r w7 ⟨d7, rfl, k', uv', V', R7, M7⟩; have RS7 := Lib.hid R7; have PM7 := Lib.hid M7; clear R7 M7)
          have FB7 := Lib.hid (FB6.out.off d7 LKeeps.off (by decide))
          have RW7 := Lib.hid (RW6.out.off d7 LKeeps.off (by decide))
          have BW7 := Lib.hid (BW6.out.trans (d7.below BW6.out.size))
          go_roundw
          case rel => exact ⟨k + 1, _, k', uv', V', bag', by omega, by go_num, Lib.hid RS7.out.blk, PM7, FB7, RW7, BW7, HR⟩
          case measure => simp [intOf]; omega
      by_cases x4 : x = W_accept
      case pos =>
        subst x4
        go_upto_region 11 with (first
          | (go_at_call 28; (with_reducible refine (does_any _ b).mono ?_); rintro r w3 ⟨⟨m, c, rfl, hM3, hC3, hm3, hc3⟩, d3⟩; have HM3 := Lib.hid hM3; have HC3 := Lib.hid hC3; clear hM3 hC3)
          | (go_at_call 29; (with_reducible refine (HTk.out _ d3).mono ?_); rintro r w5 ⟨⟨d5, e5⟩, rfl⟩; have RS5 := Lib.hid e5; clear e5; have HM5 := Lib.hid (HM3.out.keep d5 (by omega)); have hlk := (does_has HM5.out).2.2.2))
        have O3 : Off (fun x => x = b) w3 [81] := fun k hk => ⟨_, _, _, by subst hk; exact (RS2.out.below d3).blk, by simp⟩
        have PM5 := Lib.hid ((PM2.out.below d3).reader d5 O3)
        have FB5 := Lib.hid ((FB2.out.below d3 FB2.out.lt).off d5 O3 (by decide))
        have RW5 := Lib.hid ((RW2.out.below d3 RW2.out.lt).off d5 O3 (by decide))
        have HC5 := Lib.hid (HC3.out.off d5 O3 (by decide))
        have BW5 : RowKit.Hid (Below w.heap.size w w5) := Lib.hid (below_keeps (after BW2.out d3) d5 (fun k hk => by subst hk; exact hbb))
        clear O3 d3 d5 HM3 HM5 HC3 hm3 hc3 hlk HTk RS2 RD2 PM2 FB2 RW2 BW2 OV2 c0
        have hun := RS5.out.unless (Nat.le_refl 1) (by omega) true 190
        have HUn : RowKit.Hid (Calls Tryz.prog 30 #[.pointer (some ⟨b, 0, none⟩), .bool true, .int .i64 190] w5 fun r w' => r = .returned (.tuple #[]) ∧ Below w5.heap.size w5 w') := Lib.hid hun
        clear hun
        go_upto_region 12 with (go_at_call 30; (with_reducible refine HUn.out.mono ?_); rintro r w6 ⟨rfl, d6⟩)
        have RS6 := Lib.hid (RS5.out.below d6)
        have PM6 := Lib.hid (PM5.out.below d6)
        have FB6 := Lib.hid (FB5.out.below d6 FB5.out.lt)
        have RW6 := Lib.hid (RW5.out.below d6 RW5.out.lt)
        have HC6 := Lib.hid (HC5.out.below d6 HC5.out.lt)
        have BW6 := Lib.hid (after BW5.out d6)
        clear RS5 PM5 FB5 RW5 HC5 BW5 d6 HUn
        have hcall := line_accepts HEnv.out BW6.out hbb hPP RS6.out PM6.out hx
        cases ho : lineP bag (k + 1) ws with
        | error e =>
          rw [ho] at hcall
          have HCall : RowKit.Hid (Calls Tryz.prog 60 #[.pointer (some ⟨b, 0, none⟩)] w6 fun r w' => LKeeps w.heap.size w6 w' ∧ r = PanicAt e.1 (k + 1) e.2 ∧ ErrP (α := Bag) w' P (.error e)) := Lib.hid hcall
          have hR := Hres2.out
          rw [ho] at hR
          simp only at hR
          have HR := Lib.hid hR
          clear hcall hR Hres2 ho
          go_wp2_with (go_at_call 60; (with_reducible refine HCall.out.mono ?_); rintro r w7 ⟨d7, rfl, p7⟩; unfold PanicAt)
          obtain ⟨p0, p1, p2, p3, hP7⟩ := p7 e rfl
          have hF7 := FB6.out.off d7 LKeeps.off (by decide)
          have hB7 := BW6.out.trans (d7.below BW6.out.size)
          exact door_panic rfl rfl hP7 hF7 HPF.out (fun w8 hk8 => ParseGot.bad (by rw [Hp.out, HR.out]; rfl) (below_keeps hB7 hk8 (fun q hq => hq.elim (fun e => by subst e; exact hPP) fun e => by subst e; exact hFF)))
        | ok bag' =>
          rw [ho] at hcall
          have HCall : RowKit.Hid (Calls Tryz.prog 60 #[.pointer (some ⟨b, 0, none⟩)] w6 fun r w' => LKeeps w.heap.size w6 w' ∧ r = .returned (.tuple #[]) ∧ ∃ k' uv' V', Rs w' b P k' (k + 1) (.slice Av ws.length cv) uv' ws ∧ Pm w.heap.size w' P uv' V' bag') := Lib.hid (hcall.mono fun r w' ⟨h1, ⟨h2, h3⟩, _⟩ => ⟨h1, h2, h3⟩)
          have hR := Hres2.out
          rw [ho] at hR
          simp only at hR
          have HR := Lib.hid hR
          clear hcall hR Hres2 ho
          go_wp2_with (go_at_call 60; (with_reducible refine HCall.out.mono ?_); rintro r w7 ⟨d7, rfl, k', uv', V', R7, M7⟩; have RS7 := Lib.hid R7; have PM7 := Lib.hid M7; clear R7 M7)
          have FB7 := Lib.hid (FB6.out.off d7 LKeeps.off (by decide))
          have RW7 := Lib.hid (RW6.out.off d7 LKeeps.off (by decide))
          have BW7 := Lib.hid (BW6.out.trans (d7.below BW6.out.size))
          go_roundw
          case rel => exact ⟨k + 1, _, k', uv', V', bag', by omega, by go_num, Lib.hid RS7.out.blk, PM7, FB7, RW7, BW7, HR⟩
          case measure => simp [intOf]; omega
      have hR := Hres2.out
      rw [line_none bag (k + 1) hx x1 x2 x3 x4] at hR
      simp only at hR
      have HR := Lib.hid hR
      clear hR Hres2
      go_upto_region 11 with (first
        | (go_at_call 28; (with_reducible refine (does_any _ b).mono ?_); rintro r w3 ⟨⟨m, c, rfl, hM3, hC3, hm3, hc3⟩, d3⟩; have HM3 := Lib.hid hM3; have HC3 := Lib.hid hC3; clear hM3 hC3)
        | (go_at_call 29; (with_reducible refine (HTk.out _ d3).mono ?_); rintro r w5 ⟨⟨d5, e5⟩, rfl⟩; have RS5 := Lib.hid e5; clear e5; have HM5 := Lib.hid (HM3.out.keep d5 (by omega)); have hlk := does_not HM5.out x1 x2 x3 x4))
      have O3 : Off (fun x => x = b) w3 [81] := fun k hk => ⟨_, _, _, by subst hk; exact (RS2.out.below d3).blk, by simp⟩
      have PM5 := Lib.hid ((PM2.out.below d3).reader d5 O3)
      have FB5 := Lib.hid ((FB2.out.below d3 FB2.out.lt).off d5 O3 (by decide))
      have RW5 := Lib.hid ((RW2.out.below d3 RW2.out.lt).off d5 O3 (by decide))
      have HC5 := Lib.hid (HC3.out.off d5 O3 (by decide))
      have BW5 : RowKit.Hid (Below w.heap.size w w5) := Lib.hid (below_keeps (after BW2.out d3) d5 (fun k hk => by subst hk; exact hbb))
      clear O3 d3 d5 HM3 HM5 HC3 hm3 hc3 hlk HTk RS2 RD2 PM2 FB2 RW2 BW2 OV2 c0
      have hun := RS5.out.unless (Nat.le_refl 1) (by omega) false 190
      rw [show atW 1 ws = 0 by unfold atW; rw [if_pos hws1]] at hun
      have HUn : RowKit.Hid (Calls Tryz.prog 30 #[.pointer (some ⟨b, 0, none⟩), .bool false, .int .i64 190] w5 fun r w' => r = PanicAt 190 (k + 1) 0 ∧ Below w5.heap.size w5 w') := Lib.hid hun
      clear hun
      go_wp2_with (go_at_call 30; (with_reducible refine HUn.out.mono ?_); rintro r w6 ⟨rfl, d6⟩; unfold PanicAt)
      exact door_panic rfl rfl (PM5.out.blk.below d6 PM5.out.blk.lt) (FB5.out.below d6 FB5.out.lt) HPF.out (fun w8 hk8 => ParseGot.bad (by rw [Hp.out, HR.out]; rfl) (below_keeps (after BW5.out d6) hk8 (fun q hq => hq.elim (fun e => by subst e; exact hPP) fun e => by subst e; exact hFF)))
    · obtain rfl : k = N := by omega
      have hR : RES = .ok bag := by rw [hres.out, List.drop_eq_nil_of_le (by rw [List.length_map]; have := HN.out; omega)]; rfl
      obtain ⟨xs, hxs, hu9⟩ := hpm.out.u
      obtain ⟨Au, cu, rfl⟩ := own_shape hu9
      obtain ⟨U, hU⟩ : ∃ n, n = bag.used.length := ⟨_, rfl⟩
      have c3 := hrd.out.cell 3
      simp at c3
      rw [← hU] at hu9 c3
      obtain ⟨A9, cap9, hA9, hlen9, hcell9⟩ := RowR.of_own hu9
      injection hA9 with hA9 _ hC9
      subst hA9 hC9
      have hUl : U ≤ 2000000 := by have := hpm.out.ul; have := hpm.out.al; omega
      obtain ⟨gv, tv, hv, av⟩ := V
      obtain ⟨Ag, cg, eg⟩ := hpm.out.g.shape
      obtain ⟨At, ct, et⟩ := hpm.out.t.shape
      obtain ⟨Ah, ch, eh⟩ := own_shape hpm.out.h
      obtain ⟨Aa, ca, ea⟩ := hpm.out.a.shape
      simp only at eg et eh ea
      have HEg := Lib.hid eg
      have HEt := Lib.hid et
      have HEh := Lib.hid eh
      have HEa := Lib.hid ea
      clear eg et eh ea
      obtain ⟨FD, hFD⟩ : ∃ f, f = bag.used.find? fun u => !knownP bag.p u.1 := ⟨_, rfl⟩
      have hend : endP (.ok bag) = findP bag FD := by rw [endP_ok, hFD]
      have hp2 := Hp.out
      rw [hR, hend] at hp2
      have hFD0 : FD = (bag.used.drop 0).find? fun u => !knownP bag.p u.1 := hFD
      have HP2 := Lib.hid hp2
      have HFD := Lib.hid hFD0
      have HXs := Lib.hid hxs
      have HU := Lib.hid hU
      have HC9 := Lib.hid hcell9
      have PM0 := hpm
      have FB0 := hfb
      have BW0 := hbw
      have hPl := PM0.out.blk.lt
      have hFl := FB0.out.lt
      obtain ⟨wo, rfl⟩ : ∃ wo : World, wo = wr := ⟨_, rfl⟩
      clear hp2 hend hFD hFD0 hR hxs hU hu9 hcell9 hlen9 hres hrow hpm hfb hbw
      go_wp2_with fail
      go_loopw [62] (fun v62 wr2 => ∃ k2 : Nat, k2 ≤ U ∧ v62 = .int .i64 (k2 : Int) ∧ RowKit.Hid (Below wo.heap.size wo wr2) ∧ RowKit.Hid (FD = (bag.used.drop k2).find? fun u => !knownP bag.p u.1)) (fun v62 _ => U - (intOf v62).toNat)
      case atStart => exact ⟨0, Nat.zero_le _, rfl, Lib.hid (Below.refl _ _), HFD⟩
      case round =>
        obtain ⟨k2, hk2, rfl, hb2, hfd⟩ := hrel
        clear HFD
        have PBr := Lib.hid (PM0.out.blk.below hb2.out hPl)
        have FBr := Lib.hid (FB0.out.below hb2.out hFl)
        have RRr := Lib.hid (PM0.out.rows.below hb2.out)
        have BWr := Lib.hid (BW0.out.trans (hb2.out.mono BW0.out.size))
        by_cases hlt2 : k2 < U
        · obtain ⟨X, hX⟩ : ∃ X, xs[k2]? = some X := ⟨_, List.getElem?_eq_getElem (by have := congrArg List.length HXs.out; rw [List.length_map] at this; have := HU.out; omega)⟩
          have hXu : bag.used[k2]? = some X.1 := by rw [← HXs.out, List.getElem?_map, hX]; rfl
          obtain ⟨g9, o9, rfl, hc9⟩ := HC9.out (by omega)
          obtain ⟨e0, e1, e2, e3, e4, e5, e6, e7, e8⟩ := usCells_at xs k2 X hX
          have d0 := (hb2.out.cell (World.block_lt_of_cell? wo _ (hc9 _ _ e0))).trans (hc9 _ _ e0)
          have d1 := (hb2.out.cell (World.block_lt_of_cell? wo _ (hc9 _ _ e1))).trans (hc9 _ _ e1)
          have d2 := (hb2.out.cell (World.block_lt_of_cell? wo _ (hc9 _ _ e2))).trans (hc9 _ _ e2)
          have d3 := (hb2.out.cell (World.block_lt_of_cell? wo _ (hc9 _ _ e3))).trans (hc9 _ _ e3)
          have d4 := (hb2.out.cell (World.block_lt_of_cell? wo _ (hc9 _ _ e4))).trans (hc9 _ _ e4)
          have d5 := (hb2.out.cell (World.block_lt_of_cell? wo _ (hc9 _ _ e5))).trans (hc9 _ _ e5)
          have d6 := (hb2.out.cell (World.block_lt_of_cell? wo _ (hc9 _ _ e6))).trans (hc9 _ _ e6)
          have d7 := (hb2.out.cell (World.block_lt_of_cell? wo _ (hc9 _ _ e7))).trans (hc9 _ _ e7)
          have d8 := (hb2.out.cell (World.block_lt_of_cell? wo _ (hc9 _ _ e8))).trans (hc9 _ _ e8)
          rw [← Nat.add_assoc] at d1 d2 d3 d4 d5 d6 d7 d8
          obtain ⟨⟨⟨sk, sn, ⟨⟨s3, s4, s5⟩, s6⟩⟩, un, ui⟩, wd⟩ := X
          simp only at d0 d1 d2 d3 d4 d5 d6 d7 d8 hXu
          have hfd2 := hfd.out
          rw [find_hit hXu] at hfd2
          have Hfd2 := Lib.hid hfd2
          clear hfd2 hfd hX hXu e0 e1 e2 e3 e4 e5 e6 e7 e8 hc9
          go_upto_region 17 with fail
          have M7 := Lib.hid (Blk.new wr 91 #[.int .u8 (sk : Int), .string sn, .bool s3, .int .u64 (s4 : Int), .int .u64 (s5 : Int), .int .u8 (s6 : Int), .string wd, .int .i64 (un : Int), .int .i64 (ui : Int)])
          have q7 := boxed wr (.cells #[.int .u8 (sk : Int), .string sn, .bool s3, .int .u64 (s4 : Int), .int .u64 (s5 : Int), .int .u8 (s6 : Int), .string wd, .int .i64 (un : Int), .int .i64 (ui : Int)] 91)
          have hMsz : wo.heap.size ≤ wr.heap.size := hb2.out.size
          generalize wr.alloc (.cells #[.int .u8 (sk : Int), .string sn, .bool s3, .int .u64 (s4 : Int), .int .u64 (s5 : Int), .int .u8 (s6 : Int), .string wd, .int .i64 (un : Int), .int .i64 (ui : Int)] 91) = w7 at M7 q7 ⊢
          have PB7 := Lib.hid (PBr.out.below q7 PBr.out.lt)
          have FB7 := Lib.hid (FBr.out.below q7 FBr.out.lt)
          have RR7 := Lib.hid (RRr.out.below q7)
          have BW7 := Lib.hid (after BWr.out q7)
          have BO7 := Lib.hid (after hb2.out q7)
          clear q7 PBr FBr RRr BWr hb2 d0 d1 d2 d3 d4 d5 d6 d7 d8
          generalize wr.heap.size = M at M7 hMsz ⊢
          have hkn := known_any (V := ⟨gv, tv, hv, av⟩) RR7.out.rd (by have := PM0.out.gl; omega) (by have := PM0.out.tl; omega) (by have := PM0.out.hl; omega) ⟨sk, sn, ⟨⟨s3, s4, s5⟩, s6⟩⟩
          have x0 := PB7.out.cell 0
          have x1 := PB7.out.cell 1
          have x2 := PB7.out.cell 2
          have x3 := PB7.out.cell 3
          have m0 := M7.out.cell 0
          have m1 := M7.out.cell 1
          have m2 := M7.out.cell 2
          have m3 := M7.out.cell 3
          have m4 := M7.out.cell 4
          have m5 := M7.out.cell 5
          simp at x0 x1 x2 x3 m0 m1 m2 m3 m4 m5
          simp only at hkn
          by_cases hkk : knownP bag.p ⟨sk, sn, ⟨⟨s3, s4, s5⟩, s6⟩⟩ = true
          · rw [hkk] at hkn
            have HKn := Lib.hid hkn
            have hR := Hfd2.out
            rw [if_pos hkk] at hR
            have HR := Lib.hid hR
            clear hkn hR Hfd2 hkk
            go_wp2_with (go_at_call 31; (with_reducible refine HKn.out.mono ?_); rintro r w8 ⟨rfl, d8⟩)
            go_roundw
            case rel => exact ⟨k2 + 1, by omega, by go_num, Lib.hid (after BO7.out d8), HR⟩
            case measure => simp [intOf]; omega
          have hkf : knownP bag.p ⟨sk, sn, ⟨⟨s3, s4, s5⟩, s6⟩⟩ = false := by simpa using hkk
          rw [hkf] at hkn
          have HKn := Lib.hid hkn
          have hR := Hfd2.out
          rw [if_neg hkk] at hR
          have hp3 := HP2.out
          rw [hR] at hp3
          have HP3 : RowKit.Hid (parseP s.data.toList = (Po.zero, (196, un, ui))) := Lib.hid hp3
          clear hkn hR Hfd2 hkk hkf hp3
          go_upto_region 18 with (go_at_call 31; (with_reducible refine HKn.out.mono ?_); rintro r w8 ⟨rfl, d8⟩)
          have PB8 := PB7.out.below d8 PB7.out.lt
          have FB8 := FB7.out.below d8 FB7.out.lt
          have M8 := M7.out.below d8 M7.out.lt
          have BW8 := after BW7.out d8
          clear x0 x1 x2 x3 m0 m1 m2 m3 m4 m5 M7 PB7 FB7 RR7 BW7 BO7 d8 HKn
          have n7 := M8.cell 7
          have n8 := M8.cell 8
          have x0 := PB8.cell 0
          have x1 := PB8.cell 1
          have x2 := PB8.cell 2
          have x3 := PB8.cell 3
          have z0 := PB8.frozen 0
          have z1 := PB8.frozen 1
          have z2 := PB8.frozen 2
          have z3 := PB8.frozen 3
          have hMP : M ≠ P := M8.ne_ PB8 (by decide)
          have hMF : M ≠ F := M8.ne_ FB8 (by decide)
          obtain ⟨PB4, KP⟩ := put4 (.slice none 0 0) (.slice none 0 0) (.slice none 0 0) (.slice none 0 0) PB8
          obtain ⟨W4, hW4⟩ : ∃ W, W = (((w8.setCell ⟨P, 0, none⟩ (.slice none 0 0)).setCell ⟨P, 1, none⟩ (.slice none 0 0)).setCell ⟨P, 2, none⟩ (.slice none 0 0)).setCell ⟨P, 3, none⟩ (.slice none 0 0) := ⟨_, rfl⟩
          rw [← hW4] at PB4 KP
          have HW4 := Lib.hid hW4
          have FB4 := FB8.keep KP (fun e => HPF.out e.symm)
          have M4 := M8.keep KP hMP
          have m7 := M4.cell 7
          have m8 := M4.cell 8
          have y0 := FB4.cell 0
          have y1 := FB4.cell 1
          have y2 := FB4.cell 2
          have u0 := FB4.frozen 0
          have u1 := FB4.frozen 1
          have u2 := FB4.frozen 2
          obtain ⟨FB5, KF⟩ := put3 (.int .i64 196) (.int .i64 (un : Int)) (.int .i64 (ui : Int)) FB4
          obtain ⟨W5, hW5⟩ : ∃ W, W = ((W4.setCell ⟨F, 0, none⟩ (.int .i64 196)).setCell ⟨F, 1, none⟩ (.int .i64 (un : Int))).setCell ⟨F, 2, none⟩ (.int .i64 (ui : Int)) := ⟨_, rfl⟩
          rw [← hW5] at FB5 KF
          have HW5 := Lib.hid hW5
          have HF5 := Lib.hid FB5
          have HP5 := Lib.hid (PB4.keep KF HPF.out)
          have M5 := M4.keep KF hMF
          have o7 := M5.cell 7
          have o8 := M5.cell 8
          have HB5 := Lib.hid (below_keeps (below_keeps BW8 KP (fun q hq => by subst hq; exact hPP)) KF (fun q hq => by subst hq; exact hFF))
          simp at n7 n8 x0 x1 x2 x3 m7 m8 y0 y1 y2 o7 o8
          clear hW4 hW5 FB5 PB4 KF KP M4 M5 FB4 PB8 FB8 M8 BW8
          refine wp_region_held_drew (S := (fun w' => w'.cell? ⟨M, 7, none⟩ = some (.int .i64 (un : Int)) ∧ w'.cell? ⟨M, 8, none⟩ = some (.int .i64 (ui : Int)))) (by kernel_rfl) (⟨n7, n8⟩) (fun hHeld => ?_)
          refine' wpAnyH_take (i := 0) (v := _) rfl (by kernel_rfl) (by kernel_rfl) (by kernel_rfl) (fun _ _ _ h => leaves_put (by decide) (by decide) h) (Or.inl ⟨by rfl, ?ly1⟩) (by assumption) ?lrest1
          case ly1 =>
            intro w hSw
            try dsimp only at hSw
            go_simp
            try with_reducible rfl
          try simp only [Ap]
          refine' wpAnyH_take (i := 1) (v := _) rfl (by kernel_rfl) (by kernel_rfl) (by kernel_rfl) (fun _ _ _ h => leaves_put (by decide) (by decide) h) (Or.inl ⟨by rfl, ?ly2⟩) (by assumption) ?lrest2
          case ly2 =>
            intro w hSw
            try dsimp only at hSw
            go_simp
            try with_reducible rfl
          try simp only [Ap]
          refine' wpAnyH_take (i := 2) (v := _) rfl (by kernel_rfl) (by kernel_rfl) (by kernel_rfl) (fun _ _ _ h => leaves_put (by decide) (by decide) h) (Or.inl ⟨by rfl, ?ly3⟩) (by assumption) ?lrest3
          case ly3 =>
            intro w hSw
            try dsimp only at hSw
            go_simp
            try with_reducible rfl
          try simp only [Ap]
          refine' wpAnyH_take (i := 3) (v := _) rfl (by kernel_rfl) (by kernel_rfl) (by kernel_rfl) (fun _ _ _ h => leaves_put (by decide) (by decide) h) (Or.inl ⟨by rfl, ?ly4⟩) (by assumption) ?lrest4
          case ly4 =>
            intro w hSw
            try dsimp only at hSw
            go_simp
            try with_reducible rfl
          try simp only [Ap]
          refine' wpAnyH_take (i := 4) (v := _) rfl (by kernel_rfl) (by kernel_rfl) (by kernel_rfl) (fun _ _ _ h => leaves_put (by decide) (by decide) h) (Or.inl ⟨by rfl, ?ly5⟩) (by assumption) ?lrest5
          case ly5 =>
            intro w hSw
            try dsimp only at hSw
            go_simp
            try with_reducible rfl
          try simp only [Ap]
          refine' wpAnyH_take (i := 5) (v := _) rfl (by kernel_rfl) (by kernel_rfl) (by kernel_rfl) (fun _ _ _ h => leaves_put (by decide) (by decide) h) (Or.inl ⟨by rfl, ?ly6⟩) (by assumption) ?lrest6
          case ly6 =>
            intro w hSw
            try dsimp only at hSw
            go_simp
            try with_reducible rfl
          try simp only [Ap]
          refine' wpAnyH_take (i := 6) (v := _) rfl (by kernel_rfl) (by kernel_rfl) (by kernel_rfl) (fun _ _ _ h => leaves_put (by decide) (by decide) h) (Or.inl ⟨by rfl, ?ly7⟩) (by assumption) ?lrest7
          case ly7 =>
            intro w hSw
            try dsimp only at hSw
            go_simp
            try with_reducible rfl
          try simp only [Ap]
          refine' wpAnyH_take (i := 7) (v := _) rfl (by kernel_rfl) (by kernel_rfl) (by kernel_rfl) (fun _ _ _ h => leaves_put (by decide) (by decide) h) (Or.inl ⟨by rfl, ?ly8⟩) (by assumption) ?lrest8
          case ly8 =>
            intro w hSw
            try dsimp only at hSw
            go_simp
            try with_reducible rfl
          try simp only [Ap]
          refine wpAnyH_ready (rs := [8]) (by kernel_rfl) (by simp) ?_
          refine AllReadyH.cons rfl (fun K hK => ?_) AllReadyH.nil
          go_simp
          rw [← HW4.out]
          refine hK.out _ _ (⟨m7, m8⟩) (fun hHeld => ?_)
          clear hK K
          try simp only [Ap]
          refine wpAnyH_ready (rs := [9]) (by kernel_rfl) (by simp) ?_
          refine AllReadyH.cons rfl (fun K hK => ?_) AllReadyH.nil
          go_simp
          rw [← HW5.out]
          refine hK.out _ _ (⟨o7, o8⟩) (fun hHeld => ?_)
          clear hK K
          try simp only [Ap]
          refine wpAnyH_done (by kernel_rfl) ?_ _
          go_wp2_with fail
          exact door_return rfl rfl (load4 HP5.out) (load3 HF5.out) (ParseGot.bad HP3.out ⟨HB5.out.os, HB5.out.tape, HB5.out.output, HB5.out.size, HB5.out.block⟩)
        · obtain rfl : k2 = U := by omega
          have hF : FD = none := by rw [hfd.out, List.drop_eq_nil_of_le (by have := HU.out; omega)]; rfl
          have hp3 := HP2.out
          rw [hF] at hp3
          have HP3 := Lib.hid hp3
          have eg := HEg.out
          have et := HEt.out
          have eh := HEh.out
          have ea := HEa.out
          generalize bag.p.groups.length = lg at eg
          generalize bag.p.tags.length = lt at et
          generalize bag.p.hosts.length = lh at eh
          generalize bag.p.acls.length = la at ea
          clear HEg HEt HEh HEa
          subst eg et eh ea
          have x0 := PBr.out.cell 0
          have x1 := PBr.out.cell 1
          have x2 := PBr.out.cell 2
          have x3 := PBr.out.cell 3
          have z0 := PBr.out.frozen 0
          have z1 := PBr.out.frozen 1
          have z2 := PBr.out.frozen 2
          have z3 := PBr.out.frozen 3
          obtain ⟨PB4, KP⟩ := put4 (.slice Ag lg cg) (.slice At lt ct) (.slice Ah lh ch) (.slice Aa la ca) PBr.out
          obtain ⟨W4, hW4⟩ : ∃ W, W = (((wr.setCell ⟨P, 0, none⟩ (.slice Ag lg cg)).setCell ⟨P, 1, none⟩ (.slice At lt ct)).setCell ⟨P, 2, none⟩ (.slice Ah lh ch)).setCell ⟨P, 3, none⟩ (.slice Aa la ca) := ⟨_, rfl⟩
          rw [← hW4] at PB4 KP
          have FB4 := FBr.out.keep KP (fun e => HPF.out e.symm)
          have y0 := FB4.cell 0
          have y1 := FB4.cell 1
          have y2 := FB4.cell 2
          have u0 := FB4.frozen 0
          have u1 := FB4.frozen 1
          have u2 := FB4.frozen 2
          have OP : Off (fun x => x = P) wr [26] := fun q hq => ⟨_, _, _, by subst hq; exact PBr.out, by simp⟩
          have OF : Off (fun x => x = F) W4 [34] := fun q hq => ⟨_, _, _, by subst hq; exact FB4, by simp⟩
          obtain ⟨FB5, KF⟩ := put3 (.int .i64 0) (.int .i64 0) (.int .i64 0) FB4
          have HF5 := Lib.hid FB5
          have HP5 := Lib.hid (PB4.keep KF HPF.out)
          have HR5 := Lib.hid ((RRr.out.off KP OP (by decide) (by decide) (by decide) (by decide) (by decide) (by decide) (by decide)).off KF OF (by decide) (by decide) (by decide) (by decide) (by decide) (by decide) (by decide)).rd
          have HB5 := Lib.hid (below_keeps (below_keeps BWr.out KP (fun q hq => by subst hq; exact hPP)) KF (fun q hq => by subst hq; exact hFF))
          simp at x0 x1 x2 x3 y0 y1 y2
          rw [hW4] at HF5 HP5 HR5 HB5 y0 y1 y2 u0 u1 u2
          clear hW4 FB5 PB4 KF KP FB4 OP OF PBr FBr RRr BWr hb2 hfd hp3 hF c3
          go_wp2_with fail
          exact door_return rfl rfl (load4 HP5.out) (load3 HF5.out) (ParseGot.good (V := ⟨(.slice Ag lg cg), (.slice At lt ct), (.slice Ah lh ch), (.slice Aa la ca)⟩) HP3.out HR5 HB5.out)
theorem parse_any {w : World} (env : Env w) (s : ByteArray) (hs : s.size ≤ 2000000) : Calls Tryz.prog 11 #[.string s] w (ParseGot s.data.toList w) := by
  by_cases hl : 8192 < s.size
  · exact parse_long s hs hl
  · exact parse_short env s hl
end Go.Proofs.YtbiglifngfgffaaGreatDoor

/- What is read fits; the known run (works): the walk. -/
namespace Go.Proofs.YtbiglifngfgffaaGreatDoor
open Go.RowKit
attribute [local go_sem ↓] Go.wp_at_zero Go.wp_at_succ

theorem label_size {s : ByteArray} (h : labelB s = true) : s.size ≤ 33 := by
  have e : s.size = s.data.toList.length := by rw [Array.length_toList]; rfl
  unfold labelB at h
  generalize s.data.toList = l at h e
  cases l with
  | nil => rw [e]; decide
  | cons c r =>
    unfold labelL at h
    simp only [Bool.and_eq_true, decide_eq_true_eq] at h
    simp only [List.length_cons] at e
    omega
theorem kindN_le (k : List UInt8) : kindN k ≤ 6 := by
  unfold kindN
  repeat' split
  all_goals decide
theorem sel_fit {w : ByteArray} {s : Sel} (h : selP w = some s) : SelFit s := by
  have hz : Pf.zero.Ok := ⟨⟨by decide, by decide⟩, by decide⟩
  cases selP_is h with
  | star h1 h2 => subst h2; exact ⟨hz, by decide, by decide⟩
  | named k nm h0 h1 h2 h3 h4 =>
    subst h4
    have h5 : labelB (ofL nm) = true := h3
    have := label_size h5
    exact ⟨hz, Nat.lt_of_le_of_lt (kindN_le k) (by decide), Nat.le_trans this (by decide)⟩
  | net k t n h0 h1 h2 h3 => subst h3; exact ⟨(preadL_some h2).2.1, (by show (6 : Nat) < 256; decide), (by show (0 : Nat) ≤ 1900000; decide)⟩
theorem PoOk.fit {p : Po} (ok : PoOk p) (hm : mayP p = true) : PoFit p := by
  obtain ⟨m1, m2, m3, m4, m5, m6, m7⟩ := mayP_ok hm
  have hnm : ∀ l : List Nm, mayNm l = true → (∀ n ∈ l, NmFit n) ∧ l.length ≤ 64 := by
    intro l hl
    unfold mayNm at hl
    simp only [Bool.and_eq_true, decide_eq_true_eq] at hl
    refine ⟨fun n hn => ?_, hl.1.2⟩
    have := List.all_eq_true.1 hl.1.1 n hn
    simp only [Bool.and_eq_true, decide_eq_true_eq] at this
    exact ⟨Nat.le_trans (label_size this.1.1.1) (by decide), by omega, fun s hs => Nat.le_trans (label_size (List.all_eq_true.1 this.2 s hs)) (by decide)⟩
  obtain ⟨g1, g2⟩ := hnm _ m1
  obtain ⟨t1, t2⟩ := hnm _ m2
  refine ⟨g1, t1, fun x hx => ⟨Nat.le_trans (label_size (m5 x hx).1) (by decide), ok.hosts x hx⟩, fun a ha => ?_, by omega, by omega, by omega, by omega⟩
  have h := m6 a ha
  unfold mayAc at h
  simp only [Bool.and_eq_true, decide_eq_true_eq] at h
  obtain ⟨⟨⟨⟨⟨h1, h2⟩, h3⟩, h4⟩, h5⟩, h6⟩ := h
  obtain ⟨s1, s2, s3⟩ := maySels_ok h5
  obtain ⟨d1, d2, d3⟩ := maySels_ok h6
  refine ⟨fun s hs => sel_fit (s1 s hs).1, fun s hs => sel_fit (d1 s hs).1, Nat.le_trans (rising_small _ h2 h3) (by decide), by omega, by omega, by omega, fun x hx => ?_, ok.ports a ha⟩
  have := List.all_eq_true.1 h2 x hx
  simp only [Bool.or_eq_true, decide_eq_true_eq] at this
  omega

/- The two texts of the known run. -/
def WT1 : ByteArray := ⟨([103, 114, 111, 117, 112, 32, 100, 101, 118, 32, 61, 32, 97, 110, 110, 32, 98, 111, 98, 10, 116, 97, 103, 32, 119, 101, 98, 32, 61, 32, 97, 110, 110, 10, 97, 99, 99, 101, 112, 116, 32, 116, 99, 112, 44, 117, 100, 112, 32, 102, 114, 111, 109].append [32, 103, 114, 111, 117, 112, 58, 100, 101, 118, 32, 110, 101, 116, 58, 49, 48, 46, 48, 46, 48, 46, 48, 47, 56, 32, 116, 111, 32, 116, 97, 103, 58, 119, 101, 98, 32, 112, 111, 114, 116, 115, 32, 56, 48, 32, 52, 52, 51, 45, 52, 52, 52, 10]).toArray⟩
def WT2 : ByteArray := ⟨#[97, 99, 99, 101, 112, 116, 32, 97, 110, 121, 32, 102, 114, 111, 109, 32, 116, 97, 103, 58, 120, 32, 116, 111, 32, 42]⟩
theorem wt1_flt : (parseP WT1.data.toList).2 = (0, 0, 0) := by decide +kernel
theorem wt1_acls : ((parseP WT1.data.toList).1.acls.map fun a => (a.src.length, a.ports.length)) = [(2, 2)] := by decide +kernel
theorem wt1_text : (textP (parseP WT1.data.toList).1).length = 107 := by decide +kernel
theorem wt2_flt : (parseP WT2.data.toList).2 = (196, 1, 3) := by decide +kernel

set_option maxRecDepth 100000 in
theorem works_first {w : World} (env : Env w) : Calls Tryz.prog 11 #[.string WT1] w fun r w' => ∃ (p : Po) (Ag At Ah : Option Addr) (lg lt lh cg ct ch ca q o : Nat) (v0 : Value) (As : Option Addr) (cs : Nat) (v2 : Value) (Ao : Option Addr) (co : Nat), r = .returned (.tuple #[.agg #[.slice Ag lg cg, .slice At lt ct, .slice Ah lh ch, .slice (some ⟨q, o, none⟩) 1 ca], .agg #[.int .i64 0, .int .i64 0, .int .i64 0]]) ∧ PoRd w' ⟨.slice Ag lg cg, .slice At lt ct, .slice Ah lh ch, .slice (some ⟨q, o, none⟩) 1 ca⟩ p ∧ PoFit p ∧ textR p = .tuple #[.string (ofL (textP p)), .int .i64 0] ∧ (ofL (textP p)).size = 107 ∧ w'.cell? ⟨q, o, none⟩ = some v0 ∧ w'.cell? ⟨q, o + 1, none⟩ = some (.slice As 2 cs) ∧ w'.cell? ⟨q, o + 2, none⟩ = some v2 ∧ w'.cell? ⟨q, o + 3, none⟩ = some (.slice Ao 2 co) ∧ Below w.heap.size w w' := by
  refine (parse_any env WT1 (by decide)).mono ?_
  rintro r w' ⟨⟨V, rfl, hrd⟩, d⟩
  have hf := wt1_flt
  have ha := wt1_acls
  have ht := wt1_text
  have hm := parse_may (s := WT1.data.toList) (q := (parseP WT1.data.toList).1) (f := (parseP WT1.data.toList).2) rfl (by rw [hf])
  obtain ⟨_, hmay, hok⟩ := hm
  rw [hf]
  generalize (parseP WT1.data.toList).1 = p at hrd ha ht hmay hok
  obtain ⟨xs, hxs, hra, hin⟩ := hrd.a
  obtain ⟨gv, tv, hv, av⟩ := V
  obtain ⟨Ag, cg, eg⟩ := hrd.g.shape
  obtain ⟨At, ct, et⟩ := hrd.t.shape
  obtain ⟨Ah, ch, eh⟩ := hrd.h.shape
  obtain ⟨Aa, ca, ea⟩ := hra.shape
  simp only at eg et eh ea
  subst eg et eh ea
  have hl : p.acls.length = 1 := by have := congrArg List.length ha; rwa [List.length_map] at this
  have hl2 : xs.length = 1 := by have := congrArg List.length hxs; rw [List.length_map] at this; omega
  simp only [hl] at hra
  obtain ⟨q, o, rfl, hc⟩ := hra.cell (Below.refl _ _) (by decide)
  obtain ⟨X, rfl⟩ : ∃ X, xs = [X] := by
    match xs, hl2 with
    | [X], _ => exact ⟨X, rfl⟩
  rw [← hxs] at ha
  simp only [List.map_cons, List.map_nil, List.cons.injEq, Prod.mk.injEq, and_true] at ha
  obtain ⟨a1, a2⟩ := ha
  have hX := hin X (by simp)
  obtain ⟨As, cs, es⟩ := hX.s.shape
  obtain ⟨Ao, co, eo⟩ := hX.o.shape
  rw [a1] at es
  rw [a2] at eo
  obtain ⟨e0, e1, e2, e3⟩ := acCells_at [X] 0 X rfl
  have d0 := hc _ _ e0
  have d1 := hc _ _ e1
  have d2 := hc _ _ e2
  have d3 := hc _ _ e3
  rw [es] at d1
  rw [eo] at d3
  refine ⟨p, Ag, At, Ah, p.groups.length, p.tags.length, p.hosts.length, cg, ct, ch, ca, q, o, X.p, As, cs, X.d, Ao, co, (by rw [hl]; rfl), (by have h2 := hrd; rw [hl] at h2; exact h2), hok.fit hmay, ?_, ?_, d0, d1, d2, d3, d⟩
  · unfold textR
    rw [if_pos hmay, if_pos (by omega)]
  · simpa [ofL, ByteArray.size] using ht
set_option maxRecDepth 100000 in
theorem works_second {w : World} (env : Env w) : Calls Tryz.prog 11 #[.string WT2] w fun r w' => (∃ (Ag At Ah Aa : Option Addr) (lg lt lh la cg ct ch ca : Nat), r = .returned (.tuple #[.agg #[.slice Ag lg cg, .slice At lt ct, .slice Ah lh ch, .slice Aa la ca], .agg #[.int .i64 196, .int .i64 1, .int .i64 3]])) ∧ Below w.heap.size w w' := by
  refine (parse_any env WT2 (by decide)).mono ?_
  rintro r w' ⟨⟨V, rfl, hrd⟩, d⟩
  have hf := wt2_flt
  rw [hf]
  obtain ⟨gv, tv, hv, av⟩ := V
  obtain ⟨Ag, cg, eg⟩ := hrd.g.shape
  obtain ⟨At, ct, et⟩ := hrd.t.shape
  obtain ⟨Ah, ch, eh⟩ := hrd.h.shape
  obtain ⟨Aa, ca, ea⟩ := hrd.a.shape
  simp only at eg et eh ea
  subst eg et eh ea
  exact ⟨⟨Ag, At, Ah, Aa, _, _, _, _, cg, ct, ch, ca, rfl⟩, d⟩
theorem lab_ab (w : World) : Calls Tryz.prog 16 #[.string ⟨#[97, 46, 98]⟩] w (Got (.bool true) w) := label_any ⟨#[97, 46, 98]⟩ (by decide) w
theorem lab_A (w : World) : Calls Tryz.prog 16 #[.string ⟨#[65]⟩] w (Got (.bool false) w) := label_any ⟨#[65]⟩ (by decide) w

set_option maxHeartbeats 8000000 in
set_option maxRecDepth 100000 in
theorem works_any {w : World} (env : Env w) : Calls Tryz.prog 8 #[] w (Got (.bool true) w) := by
  have HEnv := Lib.hid env
  have HP1 := Lib.hid (works_first env)
  clear env
  go_enter Tryz.func8, Tryz.ntmps8
  go_upto_region 2 with (go_at_call 11; refine (HP1.out).mono ?_; rintro r w1 ⟨p, Ag, At, Ah, lg, lt, lh, cg, ct, ch, ca, q, o, v0, As, cs, v2, Ao, co, rfl, hrd, hfit, htr, hts, d0, d1, d2, d3, b1⟩)
  have hP := (Blk.new w1 26 #[.slice Ag lg cg, .slice At lt ct, .slice Ah lh ch, .slice (some ⟨q, o, none⟩) 1 ca]).alloc (.cells #[.int .i64 0, .int .i64 0, .int .i64 0] 34)
  have hF := Blk.new (w1.alloc (.cells #[.slice Ag lg cg, .slice At lt ct, .slice Ah lh ch, .slice (some ⟨q, o, none⟩) 1 ca] 26)) 34 #[.int .i64 0, .int .i64 0, .int .i64 0]
  rw [show (w1.alloc (.cells #[.slice Ag lg cg, .slice At lt ct, .slice Ah lh ch, .slice (some ⟨q, o, none⟩) 1 ca] 26)).heap.size = w1.heap.size + 1 by simp] at hF
  have hD := after (boxed w1 (.cells #[.slice Ag lg cg, .slice At lt ct, .slice Ah lh ch, .slice (some ⟨q, o, none⟩) 1 ca] 26)) (boxed (w1.alloc (.cells #[.slice Ag lg cg, .slice At lt ct, .slice Ah lh ch, .slice (some ⟨q, o, none⟩) 1 ca] 26)) (.cells #[.int .i64 0, .int .i64 0, .int .i64 0] 34))
  have HA := Lib.hid hP
  have HB := Lib.hid hF
  have HD := Lib.hid hD
  clear hP hF hD
  generalize (w1.alloc (.cells #[.slice Ag lg cg, .slice At lt ct, .slice Ah lh ch, .slice (some ⟨q, o, none⟩) 1 ca] 26)).alloc (.cells #[.int .i64 0, .int .i64 0, .int .i64 0] 34) = w2 at HA HB HD ⊢
  have HB2 := Lib.hid (after b1 HD.out)
  have HP2 := Lib.hid (works_second (HEnv.out.below HB2.out))
  go_upto_region 3 with (go_at_call 11; refine (HP2.out).mono ?_; rintro r w3 ⟨⟨Bg, Bt, Bh, Ba, mg, mt, mh, ma, xg, xt, xh, xa, rfl⟩, b3⟩)
  have HA3 := Lib.hid (HA.out.below b3 HA.out.lt)
  have HBB3 := Lib.hid (HB.out.below b3 HB.out.lt)
  have HD3 := Lib.hid (after HD.out b3)
  have HB3 := Lib.hid (after HB2.out b3)
  generalize w1.heap.size + 1 = F1 at HBB3 HB ⊢
  generalize hP1 : w1.heap.size = P1 at HA3 HA ⊢
  clear hP1 HA HB HD HB2 HP1 HP2 b3
  have hP := (Blk.new w3 26 #[.slice Bg mg xg, .slice Bt mt xt, .slice Bh mh xh, .slice Ba ma xa]).alloc (.cells #[.int .i64 196, .int .i64 1, .int .i64 3] 34)
  have hF := Blk.new (w3.alloc (.cells #[.slice Bg mg xg, .slice Bt mt xt, .slice Bh mh xh, .slice Ba ma xa] 26)) 34 #[.int .i64 196, .int .i64 1, .int .i64 3]
  rw [show (w3.alloc (.cells #[.slice Bg mg xg, .slice Bt mt xt, .slice Bh mh xh, .slice Ba ma xa] 26)).heap.size = w3.heap.size + 1 by simp] at hF
  have hD := after (boxed w3 (.cells #[.slice Bg mg xg, .slice Bt mt xt, .slice Bh mh xh, .slice Ba ma xa] 26)) (boxed (w3.alloc (.cells #[.slice Bg mg xg, .slice Bt mt xt, .slice Bh mh xh, .slice Ba ma xa] 26)) (.cells #[.int .i64 196, .int .i64 1, .int .i64 3] 34))
  have HC := Lib.hid hP
  have HE := Lib.hid hF
  have HD4 := Lib.hid hD
  clear hP hF hD
  generalize (w3.alloc (.cells #[.slice Bg mg xg, .slice Bt mt xt, .slice Bh mh xh, .slice Ba ma xa] 26)).alloc (.cells #[.int .i64 196, .int .i64 1, .int .i64 3] 34) = w4 at HC HE HD4 ⊢
  have HA4 := Lib.hid (HA3.out.below HD4.out HA3.out.lt)
  have HBB4 := Lib.hid (HBB3.out.below HD4.out HBB3.out.lt)
  have HB4 := Lib.hid (after HB3.out HD4.out)
  have e4 := after HD3.out HD4.out
  have HT := policyText_any (HEnv.out.below HB4.out) (hrd.below e4) hfit
  rw [htr] at HT
  have c0 := (e4.cell (World.block_lt_of_cell? w1 _ d0)).trans d0
  have c1 := (e4.cell (World.block_lt_of_cell? w1 _ d1)).trans d1
  have c2 := (e4.cell (World.block_lt_of_cell? w1 _ d2)).trans d2
  have c3 := (e4.cell (World.block_lt_of_cell? w1 _ d3)).trans d3
  generalize ofL (textP p) = TX at HT hts
  have HTx := Lib.hid HT
  have HTs := Lib.hid hts
  generalize w3.heap.size + 1 = F2 at HE ⊢
  generalize w3.heap.size = P2 at HC ⊢
  clear HT hts htr hfit hrd d0 d1 d2 d3 e4 HD3 HD4 HA3 HBB3 HB3 HC
  have p0 := HA4.out.cell 0
  have p1 := HA4.out.cell 1
  have p2 := HA4.out.cell 2
  have p3 := HA4.out.cell 3
  simp at p0 p1 p2 p3
  go_upto_region 4 with (go_at_call 9; (with_reducible refine HTx.out.mono ?_); rintro r w5 ⟨rfl, b5⟩)
  have r3 := (HA4.out.below b5 HA4.out.lt).cell 3
  have f0 := (HBB4.out.below b5 HBB4.out.lt).cell 0
  have g0 := (HE.out.below b5 HE.out.lt).cell 0
  have g1 := (HE.out.below b5 HE.out.lt).cell 1
  have g2 := (HE.out.below b5 HE.out.lt).cell 2
  have s1 := (b5.cell (World.block_lt_of_cell? w4 _ c1)).trans c1
  have s3 := (b5.cell (World.block_lt_of_cell? w4 _ c3)).trans c3
  have HB5 := Lib.hid (after HB4.out b5)
  simp at r3 f0 g0 g1 g2
  clear c0 c1 c2 c3 p0 p1 p2 p3 HTx b5
  have hz : (60 : Int) < (TX.size : Int) := by have := HTs.out; omega
  go_wp2_with (first
    | (go_at_call 16; (with_reducible refine (lab_ab _).mono ?_); rintro r w6 ⟨rfl, b6⟩; have HB6 := Lib.hid (after HB5.out b6); clear b6)
    | (go_at_call 16; (with_reducible refine (lab_A _).mono ?_); rintro r w7 ⟨rfl, b7⟩; have HB7 := Lib.hid (after HB6.out b7); clear b7))
  go_ret
  exact ⟨rfl, HB7.out⟩
end Go.Proofs.YtbiglifngfgffaaGreatDoor
