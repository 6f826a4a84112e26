/- Joined out of: PxL PoH PxM PzA. -/
import Derived.Test.YtbiglifngfgffaaGreatDoorJas
import Derived.Test.YtbiglifngfgffaaGreatDoorJau
import Derived.Test.YtbiglifngfgffaaGreatDoorJac
import Derived.Test.YtbiglifngfgffaaGreatDoorRows
import Derived.Test.YtbiglifngfgffaaGreatDoorTie
import Derived.Test.YtbiglifngfgffaaGreatDoorCards
import Derived.WalkKit
import Derived.ProofKit
import Derived.OpenShut
import Derived.ShutString
import Derived.ChangeMaps5
import Derived.HandedShaped
import Derived.LaidMore
import Derived.Lay
import Derived.SevenTiedAt
import Derived.Shelf.Vars
import Derived.Lib.LaidU8
set_option linter.unusedVariables false
set_option linter.unusedSimpArgs false

/- What is read fits; the known run (works): the walk. -/
namespace Go.Proofs.YtbiglifngfgffaaGreatDoor
open Go.RowKit
attribute [local go_sem ↓] Go.wp_at_zero Go.wp_at_succ

theorem label_size {s : ByteArray} (h : labelB s = true) : s.size ≤ 33 := by
  have e : s.size = s.data.toList.length := by rw [Array.length_toList]; rfl
  unfold labelB at h
  generalize s.data.toList = l at h e
  cases l with
  | nil => rw [e]; decide
  | cons c r =>
    unfold labelL at h
    simp only [Bool.and_eq_true, decide_eq_true_eq] at h
    simp only [List.length_cons] at e
    omega
theorem kindN_le (k : List UInt8) : kindN k ≤ 6 := by
  unfold kindN
  repeat' split
  all_goals decide
theorem sel_fit {w : ByteArray} {s : Sel} (h : selP w = some s) : SelFit s := by
  have hz : Pf.zero.Ok := ⟨⟨by decide, by decide⟩, by decide⟩
  cases selP_is h with
  | star h1 h2 => subst h2; exact ⟨hz, by decide, by decide⟩
  | named k nm h0 h1 h2 h3 h4 =>
    subst h4
    have h5 : labelB (ofL nm) = true := h3
    have := label_size h5
    exact ⟨hz, Nat.lt_of_le_of_lt (kindN_le k) (by decide), Nat.le_trans this (by decide)⟩
  | net k t n h0 h1 h2 h3 => subst h3; exact ⟨(preadL_some h2).2.1, (by show (6 : Nat) < 256; decide), (by show (0 : Nat) ≤ 1900000; decide)⟩
theorem PoOk.fit {p : Po} (ok : PoOk p) (hm : mayP p = true) : PoFit p := by
  obtain ⟨m1, m2, m3, m4, m5, m6, m7⟩ := mayP_ok hm
  have hnm : ∀ l : List Nm, mayNm l = true → (∀ n ∈ l, NmFit n) ∧ l.length ≤ 64 := by
    intro l hl
    unfold mayNm at hl
    simp only [Bool.and_eq_true, decide_eq_true_eq] at hl
    refine ⟨fun n hn => ?_, hl.1.2⟩
    have := List.all_eq_true.1 hl.1.1 n hn
    simp only [Bool.and_eq_true, decide_eq_true_eq] at this
    exact ⟨Nat.le_trans (label_size this.1.1.1) (by decide), by omega, fun s hs => Nat.le_trans (label_size (List.all_eq_true.1 this.2 s hs)) (by decide)⟩
  obtain ⟨g1, g2⟩ := hnm _ m1
  obtain ⟨t1, t2⟩ := hnm _ m2
  refine ⟨g1, t1, fun x hx => ⟨Nat.le_trans (label_size (m5 x hx).1) (by decide), ok.hosts x hx⟩, fun a ha => ?_, by omega, by omega, by omega, by omega⟩
  have h := m6 a ha
  unfold mayAc at h
  simp only [Bool.and_eq_true, decide_eq_true_eq] at h
  obtain ⟨⟨⟨⟨⟨h1, h2⟩, h3⟩, h4⟩, h5⟩, h6⟩ := h
  obtain ⟨s1, s2, s3⟩ := maySels_ok h5
  obtain ⟨d1, d2, d3⟩ := maySels_ok h6
  refine ⟨fun s hs => sel_fit (s1 s hs).1, fun s hs => sel_fit (d1 s hs).1, Nat.le_trans (rising_small _ h2 h3) (by decide), by omega, by omega, by omega, fun x hx => ?_, ok.ports a ha⟩
  have := List.all_eq_true.1 h2 x hx
  simp only [Bool.or_eq_true, decide_eq_true_eq] at this
  omega

/- The two texts of the known run. -/
def WT1 : ByteArray := ⟨([103, 114, 111, 117, 112, 32, 100, 101, 118, 32, 61, 32, 97, 110, 110, 32, 98, 111, 98, 10, 116, 97, 103, 32, 119, 101, 98, 32, 61, 32, 97, 110, 110, 10, 97, 99, 99, 101, 112, 116, 32, 116, 99, 112, 44, 117, 100, 112, 32, 102, 114, 111, 109].append [32, 103, 114, 111, 117, 112, 58, 100, 101, 118, 32, 110, 101, 116, 58, 49, 48, 46, 48, 46, 48, 46, 48, 47, 56, 32, 116, 111, 32, 116, 97, 103, 58, 119, 101, 98, 32, 112, 111, 114, 116, 115, 32, 56, 48, 32, 52, 52, 51, 45, 52, 52, 52, 10]).toArray⟩
def WT2 : ByteArray := ⟨#[97, 99, 99, 101, 112, 116, 32, 97, 110, 121, 32, 102, 114, 111, 109, 32, 116, 97, 103, 58, 120, 32, 116, 111, 32, 42]⟩
theorem wt1_flt : (parseP WT1.data.toList).2 = (0, 0, 0) := by decide +kernel
theorem wt1_acls : ((parseP WT1.data.toList).1.acls.map fun a => (a.src.length, a.ports.length)) = [(2, 2)] := by decide +kernel
theorem wt1_text : (textP (parseP WT1.data.toList).1).length = 107 := by decide +kernel
theorem wt2_flt : (parseP WT2.data.toList).2 = (196, 1, 3) := by decide +kernel

set_option maxRecDepth 100000 in
theorem works_first {w : World} (env : Env w) : Calls Tryz.prog 11 #[.string WT1] w fun r w' => ∃ (p : Po) (Ag At Ah : Option Addr) (lg lt lh cg ct ch ca q o : Nat) (v0 : Value) (As : Option Addr) (cs : Nat) (v2 : Value) (Ao : Option Addr) (co : Nat), r = .returned (.tuple #[.agg #[.slice Ag lg cg, .slice At lt ct, .slice Ah lh ch, .slice (some ⟨q, o, none⟩) 1 ca], .agg #[.int .i64 0, .int .i64 0, .int .i64 0]]) ∧ PoRd w' ⟨.slice Ag lg cg, .slice At lt ct, .slice Ah lh ch, .slice (some ⟨q, o, none⟩) 1 ca⟩ p ∧ PoFit p ∧ textR p = .tuple #[.string (ofL (textP p)), .int .i64 0] ∧ (ofL (textP p)).size = 107 ∧ w'.cell? ⟨q, o, none⟩ = some v0 ∧ w'.cell? ⟨q, o + 1, none⟩ = some (.slice As 2 cs) ∧ w'.cell? ⟨q, o + 2, none⟩ = some v2 ∧ w'.cell? ⟨q, o + 3, none⟩ = some (.slice Ao 2 co) ∧ Below w.heap.size w w' := by
  refine (parse_any env WT1 (by decide)).mono ?_
  rintro r w' ⟨⟨V, rfl, hrd⟩, d⟩
  have hf := wt1_flt
  have ha := wt1_acls
  have ht := wt1_text
  have hm := parse_may (s := WT1.data.toList) (q := (parseP WT1.data.toList).1) (f := (parseP WT1.data.toList).2) rfl (by rw [hf])
  obtain ⟨_, hmay, hok⟩ := hm
  rw [hf]
  generalize (parseP WT1.data.toList).1 = p at hrd ha ht hmay hok
  obtain ⟨xs, hxs, hra, hin⟩ := hrd.a
  obtain ⟨gv, tv, hv, av⟩ := V
  obtain ⟨Ag, cg, eg⟩ := hrd.g.shape
  obtain ⟨At, ct, et⟩ := hrd.t.shape
  obtain ⟨Ah, ch, eh⟩ := hrd.h.shape
  obtain ⟨Aa, ca, ea⟩ := hra.shape
  simp only at eg et eh ea
  subst eg et eh ea
  have hl : p.acls.length = 1 := by have := congrArg List.length ha; rwa [List.length_map] at this
  have hl2 : xs.length = 1 := by have := congrArg List.length hxs; rw [List.length_map] at this; omega
  simp only [hl] at hra
  obtain ⟨q, o, rfl, hc⟩ := hra.cell (Below.refl _ _) (by decide)
  obtain ⟨X, rfl⟩ : ∃ X, xs = [X] := by
    match xs, hl2 with
    | [X], _ => exact ⟨X, rfl⟩
  rw [← hxs] at ha
  simp only [List.map_cons, List.map_nil, List.cons.injEq, Prod.mk.injEq, and_true] at ha
  obtain ⟨a1, a2⟩ := ha
  have hX := hin X (by simp)
  obtain ⟨As, cs, es⟩ := hX.s.shape
  obtain ⟨Ao, co, eo⟩ := hX.o.shape
  rw [a1] at es
  rw [a2] at eo
  obtain ⟨e0, e1, e2, e3⟩ := acCells_at [X] 0 X rfl
  have d0 := hc _ _ e0
  have d1 := hc _ _ e1
  have d2 := hc _ _ e2
  have d3 := hc _ _ e3
  rw [es] at d1
  rw [eo] at d3
  refine ⟨p, Ag, At, Ah, p.groups.length, p.tags.length, p.hosts.length, cg, ct, ch, ca, q, o, X.p, As, cs, X.d, Ao, co, (by rw [hl]; rfl), (by have h2 := hrd; rw [hl] at h2; exact h2), hok.fit hmay, ?_, ?_, d0, d1, d2, d3, d⟩
  · unfold textR
    rw [if_pos hmay, if_pos (by omega)]
  · simpa [ofL, ByteArray.size] using ht
set_option maxRecDepth 100000 in
theorem works_second {w : World} (env : Env w) : Calls Tryz.prog 11 #[.string WT2] w fun r w' => (∃ (Ag At Ah Aa : Option Addr) (lg lt lh la cg ct ch ca : Nat), r = .returned (.tuple #[.agg #[.slice Ag lg cg, .slice At lt ct, .slice Ah lh ch, .slice Aa la ca], .agg #[.int .i64 196, .int .i64 1, .int .i64 3]])) ∧ Below w.heap.size w w' := by
  refine (parse_any env WT2 (by decide)).mono ?_
  rintro r w' ⟨⟨V, rfl, hrd⟩, d⟩
  have hf := wt2_flt
  rw [hf]
  obtain ⟨gv, tv, hv, av⟩ := V
  obtain ⟨Ag, cg, eg⟩ := hrd.g.shape
  obtain ⟨At, ct, et⟩ := hrd.t.shape
  obtain ⟨Ah, ch, eh⟩ := hrd.h.shape
  obtain ⟨Aa, ca, ea⟩ := hrd.a.shape
  simp only at eg et eh ea
  subst eg et eh ea
  exact ⟨⟨Ag, At, Ah, Aa, _, _, _, _, cg, ct, ch, ca, rfl⟩, d⟩
theorem lab_ab (w : World) : Calls Tryz.prog 16 #[.string ⟨#[97, 46, 98]⟩] w (Got (.bool true) w) := label_any ⟨#[97, 46, 98]⟩ (by decide) w
theorem lab_A (w : World) : Calls Tryz.prog 16 #[.string ⟨#[65]⟩] w (Got (.bool false) w) := label_any ⟨#[65]⟩ (by decide) w

set_option maxHeartbeats 8000000 in
set_option maxRecDepth 100000 in
theorem works_any {w : World} (env : Env w) : Calls Tryz.prog 8 #[] w (Got (.bool true) w) := by
  have HEnv := Lib.hid env
  have HP1 := Lib.hid (works_first env)
  clear env
  go_enter Tryz.func8, Tryz.ntmps8
  go_upto_region 2 with (go_at_call 11; refine (HP1.out).mono ?_; rintro r w1 ⟨p, Ag, At, Ah, lg, lt, lh, cg, ct, ch, ca, q, o, v0, As, cs, v2, Ao, co, rfl, hrd, hfit, htr, hts, d0, d1, d2, d3, b1⟩)
  have hP := (Blk.new w1 26 #[.slice Ag lg cg, .slice At lt ct, .slice Ah lh ch, .slice (some ⟨q, o, none⟩) 1 ca]).alloc (.cells #[.int .i64 0, .int .i64 0, .int .i64 0] 34)
  have hF := Blk.new (w1.alloc (.cells #[.slice Ag lg cg, .slice At lt ct, .slice Ah lh ch, .slice (some ⟨q, o, none⟩) 1 ca] 26)) 34 #[.int .i64 0, .int .i64 0, .int .i64 0]
  rw [show (w1.alloc (.cells #[.slice Ag lg cg, .slice At lt ct, .slice Ah lh ch, .slice (some ⟨q, o, none⟩) 1 ca] 26)).heap.size = w1.heap.size + 1 by simp] at hF
  have hD := after (boxed w1 (.cells #[.slice Ag lg cg, .slice At lt ct, .slice Ah lh ch, .slice (some ⟨q, o, none⟩) 1 ca] 26)) (boxed (w1.alloc (.cells #[.slice Ag lg cg, .slice At lt ct, .slice Ah lh ch, .slice (some ⟨q, o, none⟩) 1 ca] 26)) (.cells #[.int .i64 0, .int .i64 0, .int .i64 0] 34))
  have HA := Lib.hid hP
  have HB := Lib.hid hF
  have HD := Lib.hid hD
  clear hP hF hD
  generalize (w1.alloc (.cells #[.slice Ag lg cg, .slice At lt ct, .slice Ah lh ch, .slice (some ⟨q, o, none⟩) 1 ca] 26)).alloc (.cells #[.int .i64 0, .int .i64 0, .int .i64 0] 34) = w2 at HA HB HD ⊢
  have HB2 := Lib.hid (after b1 HD.out)
  have HP2 := Lib.hid (works_second (HEnv.out.below HB2.out))
  go_upto_region 3 with (go_at_call 11; refine (HP2.out).mono ?_; rintro r w3 ⟨⟨Bg, Bt, Bh, Ba, mg, mt, mh, ma, xg, xt, xh, xa, rfl⟩, b3⟩)
  have HA3 := Lib.hid (HA.out.below b3 HA.out.lt)
  have HBB3 := Lib.hid (HB.out.below b3 HB.out.lt)
  have HD3 := Lib.hid (after HD.out b3)
  have HB3 := Lib.hid (after HB2.out b3)
  generalize w1.heap.size + 1 = F1 at HBB3 HB ⊢
  generalize hP1 : w1.heap.size = P1 at HA3 HA ⊢
  clear hP1 HA HB HD HB2 HP1 HP2 b3
  have hP := (Blk.new w3 26 #[.slice Bg mg xg, .slice Bt mt xt, .slice Bh mh xh, .slice Ba ma xa]).alloc (.cells #[.int .i64 196, .int .i64 1, .int .i64 3] 34)
  have hF := Blk.new (w3.alloc (.cells #[.slice Bg mg xg, .slice Bt mt xt, .slice Bh mh xh, .slice Ba ma xa] 26)) 34 #[.int .i64 196, .int .i64 1, .int .i64 3]
  rw [show (w3.alloc (.cells #[.slice Bg mg xg, .slice Bt mt xt, .slice Bh mh xh, .slice Ba ma xa] 26)).heap.size = w3.heap.size + 1 by simp] at hF
  have hD := after (boxed w3 (.cells #[.slice Bg mg xg, .slice Bt mt xt, .slice Bh mh xh, .slice Ba ma xa] 26)) (boxed (w3.alloc (.cells #[.slice Bg mg xg, .slice Bt mt xt, .slice Bh mh xh, .slice Ba ma xa] 26)) (.cells #[.int .i64 196, .int .i64 1, .int .i64 3] 34))
  have HC := Lib.hid hP
  have HE := Lib.hid hF
  have HD4 := Lib.hid hD
  clear hP hF hD
  generalize (w3.alloc (.cells #[.slice Bg mg xg, .slice Bt mt xt, .slice Bh mh xh, .slice Ba ma xa] 26)).alloc (.cells #[.int .i64 196, .int .i64 1, .int .i64 3] 34) = w4 at HC HE HD4 ⊢
  have HA4 := Lib.hid (HA3.out.below HD4.out HA3.out.lt)
  have HBB4 := Lib.hid (HBB3.out.below HD4.out HBB3.out.lt)
  have HB4 := Lib.hid (after HB3.out HD4.out)
  have e4 := after HD3.out HD4.out
  have HT := policyText_any (HEnv.out.below HB4.out) (hrd.below e4) hfit
  rw [htr] at HT
  have c0 := (e4.cell (World.block_lt_of_cell? w1 _ d0)).trans d0
  have c1 := (e4.cell (World.block_lt_of_cell? w1 _ d1)).trans d1
  have c2 := (e4.cell (World.block_lt_of_cell? w1 _ d2)).trans d2
  have c3 := (e4.cell (World.block_lt_of_cell? w1 _ d3)).trans d3
  generalize ofL (textP p) = TX at HT hts
  have HTx := Lib.hid HT
  have HTs := Lib.hid hts
  generalize w3.heap.size + 1 = F2 at HE ⊢
  generalize w3.heap.size = P2 at HC ⊢
  clear HT hts htr hfit hrd d0 d1 d2 d3 e4 HD3 HD4 HA3 HBB3 HB3 HC
  have p0 := HA4.out.cell 0
  have p1 := HA4.out.cell 1
  have p2 := HA4.out.cell 2
  have p3 := HA4.out.cell 3
  simp at p0 p1 p2 p3
  go_upto_region 4 with (go_at_call 9; (with_reducible refine HTx.out.mono ?_); rintro r w5 ⟨rfl, b5⟩)
  have r3 := (HA4.out.below b5 HA4.out.lt).cell 3
  have f0 := (HBB4.out.below b5 HBB4.out.lt).cell 0
  have g0 := (HE.out.below b5 HE.out.lt).cell 0
  have g1 := (HE.out.below b5 HE.out.lt).cell 1
  have g2 := (HE.out.below b5 HE.out.lt).cell 2
  have s1 := (b5.cell (World.block_lt_of_cell? w4 _ c1)).trans c1
  have s3 := (b5.cell (World.block_lt_of_cell? w4 _ c3)).trans c3
  have HB5 := Lib.hid (after HB4.out b5)
  simp at r3 f0 g0 g1 g2
  clear c0 c1 c2 c3 p0 p1 p2 p3 HTx b5
  have hz : (60 : Int) < (TX.size : Int) := by have := HTs.out; omega
  go_wp2_with (first
    | (go_at_call 16; (with_reducible refine (lab_ab _).mono ?_); rintro r w6 ⟨rfl, b6⟩; have HB6 := Lib.hid (after HB5.out b6); clear b6)
    | (go_at_call 16; (with_reducible refine (lab_A _).mono ?_); rintro r w7 ⟨rfl, b7⟩; have HB7 := Lib.hid (after HB6.out b7); clear b7))
  go_ret
  exact ⟨rfl, HB7.out⟩
end Go.Proofs.YtbiglifngfgffaaGreatDoor

/- What is wrong stands where it is told: the plain law of PolicyPlaces. -/
namespace Go.Proofs.YtbiglifngfgffaaGreatDoor
open Go.RowKit

/- Where a line begins, as the statement looks for it: bytes left, place, line, where that line began, line wanted. -/
def seekL : List UInt8 → Nat → Nat → Nat → Nat → Nat × Nat
  | [], _, line, at_, _ => (line, at_)
  | c :: r, i, line, at_, F => if line < F then (if c = 10 then seekL r (i + 1) (line + 1) (i + 1) F else seekL r (i + 1) line at_ F) else (line, at_)
theorem seek_here : ∀ (l : List UInt8) (i n a : Nat), seekL l i n a n = (n, a) := by
  intro l i n a
  cases l with
  | nil => rfl
  | cons c r => unfold seekL; rw [if_neg (Nat.lt_irrefl n)]
theorem seek_line : ∀ (x y : List UInt8) (i m a n : Nat), (10 : UInt8) ∉ x → m < n → seekL (x ++ 10 :: y) i m a n = seekL y (i + x.length + 1) (m + 1) (i + x.length + 1) n := by
  intro x
  induction x with
  | nil =>
    intro y i m a n _ h
    rw [List.nil_append, seekL, if_pos h, if_pos rfl]
    rfl
  | cons c x ih =>
    intro y i m a n hx h
    have hc : c ≠ 10 := fun e => hx (by rw [e]; exact List.mem_cons_self ..)
    rw [List.cons_append, seekL, if_pos h, if_neg hc, ih y _ m a n (fun e => hx (List.mem_cons_of_mem _ e)) h, List.length_cons]
    rw [show i + 1 + x.length + 1 = i + (x.length + 1) + 1 by omega]
theorem line_cases : ∀ s : List UInt8, ((10 : UInt8) ∉ s) ∨ ∃ x y, (10 : UInt8) ∉ x ∧ s = x ++ 10 :: y := by
  intro s
  induction s with
  | nil => exact Or.inl (by simp)
  | cons c s ih =>
    by_cases hc : c = 10
    · subst hc
      exact Or.inr ⟨[], s, by simp, rfl⟩
    · rcases ih with h | ⟨x, y, hx, rfl⟩
      · exact Or.inl fun h2 => by
          rcases List.mem_cons.1 h2 with h2 | h2
          · exact hc h2.symm
          · exact h h2
      · exact Or.inr ⟨c :: x, y, fun h2 => by
          rcases List.mem_cons.1 h2 with h2 | h2
          · exact hc h2.symm
          · exact hx h2, rfl⟩
def BeginsOk (s : List UInt8) (i m n : Nat) (b : Bag) : Prop := m ≤ n ∧ ∃ k, k ≤ s.length ∧ seekL s i m i n = (n, i + k) ∧ ∃ b', linesP (split1 10 (s.take k)) m b = .ok b'
theorem begins_here (s : List UInt8) (i m : Nat) (b : Bag) : BeginsOk s i m m b := ⟨Nat.le_refl _, 0, Nat.zero_le _, seek_here _ _ _ _, b, rfl⟩
theorem begins_next {x y : List UInt8} {i m n : Nat} {b b1 : Bag} (hx : (10 : UInt8) ∉ x) (h1 : lineP b m (wordsL x) = .ok b1) (h : BeginsOk y (i + x.length + 1) (m + 1) n b1) : BeginsOk (x ++ 10 :: y) i m n b := by
  obtain ⟨hm, k, hk, hs, b', hb⟩ := h
  refine ⟨by omega, x.length + 1 + k, by rw [List.length_append, List.length_cons]; omega, ?_, b', ?_⟩
  · rw [seek_line x y i m i n hx (by omega), hs]
    congr 1
    omega
  · have : (x ++ 10 :: y).take (x.length + 1 + k) = x ++ 10 :: y.take k := by
      rw [List.take_append, List.take_of_length_le (by omega)]
      congr 1
      rw [show x.length + 1 + k - x.length = k + 1 by omega, List.take_succ_cons]
    rw [this, split1_hit _ hx, linesP, h1]
    exact hb
theorem lineP_used {b b' : Bag} {n : Nat} {ws : List ByteArray} (h : lineP b n ws = .ok b') : ∀ u ∈ b'.used, u ∈ b.used ∨ u.2.1 = n := by
  intro u hu
  unfold lineP at h
  split at h
  · injection h with h; subst h; exact Or.inl hu
  split at h
  · obtain ⟨v, _, rfl⟩ := map_ok h; exact Or.inl hu
  split at h
  · obtain ⟨v, _, rfl⟩ := map_ok h; exact Or.inl hu
  split at h
  · obtain ⟨v, _, rfl⟩ := map_ok h; exact Or.inl hu
  split at h
  · obtain ⟨v, _, rfl⟩ := map_ok h
    rcases List.mem_append.1 hu with hu | hu
    · exact Or.inl hu
    · obtain ⟨y, _, rfl⟩ := List.mem_map.1 hu
      exact Or.inr rfl
  · cases h
theorem begins_err : ∀ (L : Nat) (s : List UInt8), s.length ≤ L → ∀ (i m : Nat) (b : Bag) (c n w : Nat), linesP (split1 10 s) m b = .error (c, n, w) → BeginsOk s i m n b := by
  intro L
  induction L with
  | zero =>
    intro s hs i m b c n w h
    obtain rfl := List.eq_nil_of_length_eq_zero (Nat.le_zero.1 hs)
    cases h
  | succ L ih =>
    intro s hs i m b c n w h
    rcases line_cases s with hx | ⟨x, y, hx, rfl⟩
    · rw [split1_none hx, linesP] at h
      split at h
      · next e he =>
        injection h with h
        injection h with _ h
        injection h with h _
        subst h
        exact begins_here _ _ _ _
      · cases h
    · rw [split1_hit _ hx, linesP] at h
      split at h
      · next e he =>
        injection h with h
        injection h with _ h
        injection h with h _
        subst h
        exact begins_here _ _ _ _
      · next b1 hb1 =>
        rw [List.length_append, List.length_cons] at hs
        exact begins_next hx hb1 (ih y (by omega) _ _ _ _ _ _ h)
theorem begins_used : ∀ (L : Nat) (s : List UInt8), s.length ≤ L → ∀ (i m : Nat) (b b1 : Bag), linesP (split1 10 s) m b = .ok b1 → ∀ u ∈ b1.used, u ∈ b.used ∨ BeginsOk s i m u.2.1 b := by
  intro L
  induction L with
  | zero =>
    intro s hs i m b b1 h u hu
    obtain rfl := List.eq_nil_of_length_eq_zero (Nat.le_zero.1 hs)
    have : Except.ok b = Except.ok (ε := Flt) b1 := h
    injection this with this
    subst this
    exact Or.inl hu
  | succ L ih =>
    intro s hs i m b b1 h u hu
    rcases line_cases s with hx | ⟨x, y, hx, rfl⟩
    · rw [split1_none hx, linesP] at h
      split at h
      · cases h
      · next b2 hb2 =>
        rw [linesP] at h
        injection h with h
        subst h
        rcases lineP_used hb2 u hu with h | h
        · exact Or.inl h
        · rw [h]; exact Or.inr (begins_here _ _ _ _)
    · rw [split1_hit _ hx, linesP] at h
      split at h
      · cases h
      · next b2 hb2 =>
        rw [List.length_append, List.length_cons] at hs
        rcases ih y (by omega) (i + x.length + 1) (m + 1) b2 b1 h u hu with h2 | h2
        · rcases lineP_used hb2 u h2 with h | h
          · exact Or.inl h
          · rw [h]; exact Or.inr (begins_here _ _ _ _)
        · exact Or.inr (begins_next hx hb2 h2)
/- WHAT IS WRONG STANDS WHERE IT IS TOLD. -/
theorem places_plain {s : List UInt8} {q : Po} {c n w : Nat} (h : parseP s = (q, (c, n, w))) : ((c = 0 ∨ n < 1) ∧ ((c, n, w) = (0, 0, 0) ∨ (c, n, w) = (4, 0, 0))) ∨
    (c ≠ 0 ∧ 1 ≤ n ∧ ∃ k, k ≤ s.length ∧ seekL s 0 1 0 n = (n, k) ∧ ((parseP (s.take k)).2.1 = 0 ∨ (parseP (s.take k)).2.1 = 196)) := by
  have fin : ∀ n, s.length ≤ 8192 → BeginsOk s 0 1 n ⟨Po.zero, []⟩ → 1 ≤ n ∧ ∃ k, k ≤ s.length ∧ seekL s 0 1 0 n = (n, k) ∧ ((parseP (s.take k)).2.1 = 0 ∨ (parseP (s.take k)).2.1 = 196) := by
    rintro n hl ⟨h1, k, hk, hs, b', hb⟩
    refine ⟨h1, k, hk, by rw [hs, Nat.zero_add], ?_⟩
    unfold parseP
    rw [if_neg (by rw [List.length_take]; omega), hb]
    simp only
    split
    · exact Or.inr rfl
    · exact Or.inl rfl
  by_cases hl : 8192 < s.length
  · unfold parseP at h
    rw [if_pos hl] at h
    injection h with h1 h2
    exact Or.inl ⟨Or.inr (by injection h2 with _ h2; injection h2 with h2 _; omega), Or.inr h2.symm⟩
  · by_cases hc : c = 0
    · obtain ⟨h0, _⟩ := parse_may h hc
      exact Or.inl ⟨Or.inl hc, Or.inl h0⟩
    · refine Or.inr ⟨hc, ?_⟩
      unfold parseP at h
      rw [if_neg hl] at h
      split at h
      · next e he =>
        injection h with h1 h2
        subst h2
        exact fin n (by omega) (begins_err _ _ (Nat.le_refl _) 0 1 _ _ _ _ he)
      · next b hb =>
        split at h
        · next u hu =>
          injection h with h1 h2
          injection h2 with h2 h3
          have hm := List.mem_of_find?_eq_some hu
          rcases begins_used _ _ (Nat.le_refl _) 0 1 _ _ hb u hm with h4 | h4
          · cases h4
          · rw [h3] at h4
            exact fin n (by omega) h4
        · injection h with h1 h2
          injection h2 with h2 h3
          exact absurd h2.symm hc
end Go.Proofs.YtbiglifngfgffaaGreatDoor

/- What is wrong with a text stands where it is told (PolicyPlaces): the walk. -/
namespace Go.Proofs.YtbiglifngfgffaaGreatDoor
open Go.RowKit
attribute [local go_sem ↓] Go.wp_at_zero Go.wp_at_succ

theorem parse_some {w : World} (env : Env w) (s : ByteArray) (hs : s.size ≤ 2000000) {q : Po} {c n x : Nat} (h : parseP s.data.toList = (q, (c, n, x))) : Calls Tryz.prog 11 #[.string s] w fun r w' => (∃ (Ag At Ah Aa : Option Addr) (cg ct ch ca : Nat), r = .returned (.tuple #[.agg #[.slice Ag q.groups.length cg, .slice At q.tags.length ct, .slice Ah q.hosts.length ch, .slice Aa q.acls.length ca], .agg #[.int .i64 (c : Int), .int .i64 (n : Int), .int .i64 (x : Int)]]) ∧ PoRd w' ⟨.slice Ag q.groups.length cg, .slice At q.tags.length ct, .slice Ah q.hosts.length ch, .slice Aa q.acls.length ca⟩ q) ∧ Below w.heap.size w w' := by
  refine (parse_any env s hs).mono ?_
  rintro r w' ⟨⟨V, rfl, hrd⟩, d⟩
  rw [h] at hrd ⊢
  simp only at hrd
  obtain ⟨gv, tv, hv, av⟩ := V
  obtain ⟨Ag, cg, eg⟩ := hrd.g.shape
  obtain ⟨At, ct, et⟩ := hrd.t.shape
  obtain ⟨Ah, ch, eh⟩ := hrd.h.shape
  obtain ⟨Aa, ca, ea⟩ := hrd.a.shape
  simp only at eg et eh ea
  subst eg et eh ea
  exact ⟨⟨Ag, At, Ah, Aa, cg, ct, ch, ca, rfl, hrd⟩, d⟩

set_option maxHeartbeats 8000000 in
set_option maxRecDepth 100000 in
theorem places_any {w : World} (env : Env w) (s : ByteArray) : Calls Tryz.prog 4 #[.string s] w (Got (.bool true) w) := by
  have hwk := fun u (hu : Below w.heap.size w u) => works_any (env.below hu)
  have HWk := Lib.hid hwk
  have HEnv := Lib.hid env
  clear hwk env
  by_cases hl : 8192 < s.size
  · have hz : (8192 : Int) < (s.size : Int) := by omega
    clear hl
    go_enter Tryz.func4, Tryz.ntmps4
    go_wp2_with (go_at_call 8; (with_reducible refine (HWk.out _ (Below.refl _ _)).mono ?_); rintro r w1 ⟨rfl, b1⟩)
    go_ret
    exact ⟨rfl, b1⟩
  have hz : ¬ (8192 : Int) < (s.size : Int) := by omega
  obtain ⟨⟨q, c, n, x⟩, hp⟩ : ∃ R, parseP s.data.toList = R := ⟨_, rfl⟩
  have hps := parse_some HEnv.out s (by omega) hp
  rcases places_plain hp with ⟨_, hA⟩ | ⟨hc, hn, K, hK, hseek, hlast⟩
  · have hcase : (c = 0 ∧ n = 0 ∧ x = 0) ∨ (c = 4 ∧ n = 0 ∧ x = 0) := by
      rcases hA with h | h
      · injection h with h1 h; injection h with h2 h3; exact Or.inl ⟨h1, h2, h3⟩
      · injection h with h1 h; injection h with h2 h3; exact Or.inr ⟨h1, h2, h3⟩
    clear hA hl
    rcases hcase with ⟨rfl, rfl, rfl⟩ | ⟨rfl, rfl, rfl⟩
    · skip
      have HPs : RowKit.Hid (Calls Tryz.prog 11 #[.string s] w fun r w' => (∃ (Ag At Ah Aa : Option Addr) (lg lt lh la cg ct ch ca : Nat), r = .returned (.tuple #[.agg #[.slice Ag lg cg, .slice At lt ct, .slice Ah lh ch, .slice Aa la ca], .agg #[.int .i64 0, .int .i64 0, .int .i64 0]])) ∧ Below w.heap.size w w') := Lib.hid (hps.mono fun r w' h => by
        obtain ⟨⟨Ag, At, Ah, Aa, cg, ct, ch, ca, h1, _⟩, h2⟩ := h
        exact ⟨⟨Ag, At, Ah, Aa, _, _, _, _, cg, ct, ch, ca, h1⟩, h2⟩)
      clear hps hp
      go_enter Tryz.func4, Tryz.ntmps4
      go_upto_region 4 with (go_at_call 11; refine (HPs.out).mono ?_; rintro r w1 ⟨⟨Ag, At, Ah, Aa, lg, lt, lh, la, cg, ct, ch, ca, rfl⟩, b1⟩)
      have hP := (Blk.new w1 26 #[.slice Ag lg cg, .slice At lt ct, .slice Ah lh ch, .slice Aa la ca]).alloc (.cells #[.int .i64 0, .int .i64 0, .int .i64 0] 34)
      have hF := Blk.new (w1.alloc (.cells #[.slice Ag lg cg, .slice At lt ct, .slice Ah lh ch, .slice Aa la ca] 26)) 34 #[.int .i64 0, .int .i64 0, .int .i64 0]
      rw [show (w1.alloc (.cells #[.slice Ag lg cg, .slice At lt ct, .slice Ah lh ch, .slice Aa la ca] 26)).heap.size = w1.heap.size + 1 by simp] at hF
      have hD := after (boxed w1 (.cells #[.slice Ag lg cg, .slice At lt ct, .slice Ah lh ch, .slice Aa la ca] 26)) (boxed (w1.alloc (.cells #[.slice Ag lg cg, .slice At lt ct, .slice Ah lh ch, .slice Aa la ca] 26)) (.cells #[.int .i64 0, .int .i64 0, .int .i64 0] 34))
      have HA := Lib.hid hP
      have HB := Lib.hid hF
      have HD := Lib.hid (after b1 hD)
      clear hP hF hD
      generalize (w1.alloc (.cells #[.slice Ag lg cg, .slice At lt ct, .slice Ah lh ch, .slice Aa la ca] 26)).alloc (.cells #[.int .i64 0, .int .i64 0, .int .i64 0] 34) = w2 at HA HB HD ⊢
      have f0 := HB.out.cell 0
      have f1 := HB.out.cell 1
      have f2 := HB.out.cell 2
      simp at f0 f1 f2
      go_wp2_with (go_at_call 8; (with_reducible refine (HWk.out _ HD.out).mono ?_); rintro r w3 ⟨rfl, b3⟩)
      go_ret
      exact ⟨rfl, after HD.out b3⟩
    · skip
      have HPs : RowKit.Hid (Calls Tryz.prog 11 #[.string s] w fun r w' => (∃ (Ag At Ah Aa : Option Addr) (lg lt lh la cg ct ch ca : Nat), r = .returned (.tuple #[.agg #[.slice Ag lg cg, .slice At lt ct, .slice Ah lh ch, .slice Aa la ca], .agg #[.int .i64 4, .int .i64 0, .int .i64 0]])) ∧ Below w.heap.size w w') := Lib.hid (hps.mono fun r w' h => by
        obtain ⟨⟨Ag, At, Ah, Aa, cg, ct, ch, ca, h1, _⟩, h2⟩ := h
        exact ⟨⟨Ag, At, Ah, Aa, _, _, _, _, cg, ct, ch, ca, h1⟩, h2⟩)
      clear hps hp
      go_enter Tryz.func4, Tryz.ntmps4
      go_upto_region 4 with (go_at_call 11; refine (HPs.out).mono ?_; rintro r w1 ⟨⟨Ag, At, Ah, Aa, lg, lt, lh, la, cg, ct, ch, ca, rfl⟩, b1⟩)
      have hP := (Blk.new w1 26 #[.slice Ag lg cg, .slice At lt ct, .slice Ah lh ch, .slice Aa la ca]).alloc (.cells #[.int .i64 4, .int .i64 0, .int .i64 0] 34)
      have hF := Blk.new (w1.alloc (.cells #[.slice Ag lg cg, .slice At lt ct, .slice Ah lh ch, .slice Aa la ca] 26)) 34 #[.int .i64 4, .int .i64 0, .int .i64 0]
      rw [show (w1.alloc (.cells #[.slice Ag lg cg, .slice At lt ct, .slice Ah lh ch, .slice Aa la ca] 26)).heap.size = w1.heap.size + 1 by simp] at hF
      have hD := after (boxed w1 (.cells #[.slice Ag lg cg, .slice At lt ct, .slice Ah lh ch, .slice Aa la ca] 26)) (boxed (w1.alloc (.cells #[.slice Ag lg cg, .slice At lt ct, .slice Ah lh ch, .slice Aa la ca] 26)) (.cells #[.int .i64 4, .int .i64 0, .int .i64 0] 34))
      have HA := Lib.hid hP
      have HB := Lib.hid hF
      have HD := Lib.hid (after b1 hD)
      clear hP hF hD
      generalize (w1.alloc (.cells #[.slice Ag lg cg, .slice At lt ct, .slice Ah lh ch, .slice Aa la ca] 26)).alloc (.cells #[.int .i64 4, .int .i64 0, .int .i64 0] 34) = w2 at HA HB HD ⊢
      have f0 := HB.out.cell 0
      have f1 := HB.out.cell 1
      have f2 := HB.out.cell 2
      simp at f0 f1 f2
      go_wp2_with (go_at_call 8; (with_reducible refine (HWk.out _ HD.out).mono ?_); rintro r w3 ⟨rfl, b3⟩)
      go_ret
      exact ⟨rfl, after HD.out b3⟩
  have qc : ((c : Int) == 0) = false := by simp; omega
  have qn : ¬ (n : Int) < 1 := by omega
  have hsl : s.data.toList.length = s.size := (Lib.size_eq s).symm
  have hdat : ∀ k, k ≤ s.size → (s.extract 0 k).data.toList = s.data.toList.take k := by
    intro k hk
    rw [ByteArray.data_extract, Array.toList_extract, List.extract_eq_take_drop, List.drop_zero, Nat.sub_zero]
  obtain ⟨⟨q2, c2, n2, x2⟩, hp2⟩ : ∃ R, parseP (s.data.toList.take K) = R := ⟨_, rfl⟩
  rw [hp2] at hlast
  have hps2 := fun u (hu : Below w.heap.size w u) => parse_some (q := q2) (c := c2) (n := n2) (x := x2) (HEnv.out.below hu) (s.extract 0 K) (by rw [ByteArray.size_extract]; omega) (by rw [hdat K (by omega)]; exact hp2)
  have hKs : K ≤ s.size := by omega
  have HPs := Lib.hid hps
  have HL0 : RowKit.Hid (c2 = 0 → ∀ u, Below w.heap.size w u → Calls Tryz.prog 11 #[.string (s.extract 0 K)] u fun r w' => (∃ (Ag At Ah Aa : Option Addr) (lg lt lh la cg ct ch ca : Nat), r = .returned (.tuple #[.agg #[.slice Ag lg cg, .slice At lt ct, .slice Ah lh ch, .slice Aa la ca], .agg #[.int .i64 0, .int .i64 (n2 : Int), .int .i64 (x2 : Int)]])) ∧ Below u.heap.size u w') := Lib.hid (by
    rintro rfl u hu
    refine (hps2 u hu).mono fun r w' h => ?_
    obtain ⟨⟨Ag, At, Ah, Aa, cg, ct, ch, ca, h1, _⟩, h2⟩ := h
    exact ⟨⟨Ag, At, Ah, Aa, _, _, _, _, cg, ct, ch, ca, h1⟩, h2⟩)
  have HL1 : RowKit.Hid (c2 = 196 → ∀ u, Below w.heap.size w u → Calls Tryz.prog 11 #[.string (s.extract 0 K)] u fun r w' => (∃ (Ag At Ah Aa : Option Addr) (lg lt lh la cg ct ch ca : Nat), r = .returned (.tuple #[.agg #[.slice Ag lg cg, .slice At lt ct, .slice Ah lh ch, .slice Aa la ca], .agg #[.int .i64 196, .int .i64 (n2 : Int), .int .i64 (x2 : Int)]])) ∧ Below u.heap.size u w') := Lib.hid (by
    rintro rfl u hu
    refine (hps2 u hu).mono fun r w' h => ?_
    obtain ⟨⟨Ag, At, Ah, Aa, cg, ct, ch, ca, h1, _⟩, h2⟩ := h
    exact ⟨⟨Ag, At, Ah, Aa, _, _, _, _, cg, ct, ch, ca, h1⟩, h2⟩)
  have HSeek := Lib.hid hseek
  have HLast := Lib.hid hlast
  have HSl := Lib.hid hsl
  clear hps hps2 hseek hlast hp hp2 hsl hdat hc hK hl
  generalize q.groups.length = lg at HPs
  go_enter Tryz.func4, Tryz.ntmps4
  go_upto_region 4 with (go_at_call 11; refine (HPs.out).mono ?_; rintro r w1 ⟨⟨Ag, At, Ah, Aa, cg, ct, ch, ca, rfl, _⟩, b1⟩)
  have hP := (Blk.new w1 26 #[.slice Ag lg cg, .slice At q.tags.length ct, .slice Ah q.hosts.length ch, .slice Aa q.acls.length ca]).alloc (.cells #[.int .i64 (c : Int), .int .i64 (n : Int), .int .i64 (x : Int)] 34)
  have hF := Blk.new (w1.alloc (.cells #[.slice Ag lg cg, .slice At q.tags.length ct, .slice Ah q.hosts.length ch, .slice Aa q.acls.length ca] 26)) 34 #[.int .i64 (c : Int), .int .i64 (n : Int), .int .i64 (x : Int)]
  rw [show (w1.alloc (.cells #[.slice Ag lg cg, .slice At q.tags.length ct, .slice Ah q.hosts.length ch, .slice Aa q.acls.length ca] 26)).heap.size = w1.heap.size + 1 by simp] at hF
  have hD := after (boxed w1 (.cells #[.slice Ag lg cg, .slice At q.tags.length ct, .slice Ah q.hosts.length ch, .slice Aa q.acls.length ca] 26)) (boxed (w1.alloc (.cells #[.slice Ag lg cg, .slice At q.tags.length ct, .slice Ah q.hosts.length ch, .slice Aa q.acls.length ca] 26)) (.cells #[.int .i64 (c : Int), .int .i64 (n : Int), .int .i64 (x : Int)] 34))
  have HA := Lib.hid hP
  have HB := Lib.hid hF
  have HD := Lib.hid (after b1 hD)
  clear hP hF hD
  generalize (w1.alloc (.cells #[.slice Ag lg cg, .slice At q.tags.length ct, .slice Ah q.hosts.length ch, .slice Aa q.acls.length ca] 26)).alloc (.cells #[.int .i64 (c : Int), .int .i64 (n : Int), .int .i64 (x : Int)] 34) = w2 at HA HB HD ⊢
  generalize w1.heap.size + 1 = F1 at HB ⊢
  have f0 := HB.out.cell 0
  have f1 := HB.out.cell 1
  simp at f0 f1
  go_wp2_with fail
  go_loopw [5, 6, 7] (fun v5 v6 v7 wr => ∃ i m a : Nat, i ≤ s.size ∧ m ≤ i + 1 ∧ a ≤ i ∧ v7 = .int .i64 (i : Int) ∧ v5 = .int .i64 (m : Int) ∧ v6 = .int .i64 (a : Int) ∧ RowKit.Hid (seekL (s.data.toList.drop i) i m a n = (n, K)) ∧ wr = w2) (fun _ _ v7 _ => s.size - (intOf v7).toNat)
  case atStart => exact ⟨0, 1, 0, Nat.zero_le _, Nat.le_refl _, Nat.le_refl _, rfl, rfl, rfl, HSeek, rfl⟩
  case round =>
    obtain ⟨i, m, a, hi, hm, ha, rfl, rfl, rfl, hsk, rfl⟩ := hrel
    by_cases hlt : i < s.size
    · have hkl : i < s.data.toList.length := by have := HSl.out; omega
      have hdrop : s.data.toList.drop i = (s[i]'hlt) :: s.data.toList.drop (i + 1) := by
        rw [List.drop_eq_getElem_cons hkl]
        rfl
      have hsk2 := hsk.out
      rw [hdrop] at hsk2
      unfold seekL at hsk2
      obtain ⟨b, hbk⟩ : ∃ b, b = s[i]'hlt := ⟨_, rfl⟩
      rw [← hbk] at hsk2
      have hx : (s[i]'hlt).toNat = b.toNat := by rw [hbk]
      by_cases hmn : m < n
      · rw [if_pos hmn] at hsk2
        have qm : (m : Int) < (n : Int) := by omega
        by_cases hb : b = 10
        · rw [if_pos hb] at hsk2
          have HSk := Lib.hid hsk2
          have hX : b.toNat = 10 := by rw [hb]; rfl
          rw [hX] at hx
          clear hsk2 hb hX hbk hdrop hsk hmn hkl
          go_wp2_with fail
          go_roundw
          case rel => exact ⟨i + 1, m + 1, i + 1, by omega, by omega, by omega, by go_num, by go_num, by go_num, HSk, trivial⟩
          case measure => simp [intOf]; omega
        · rw [if_neg hb] at hsk2
          have HSk := Lib.hid hsk2
          have qb : ((b.toNat : Int) == 10) = false := by
            have : b.toNat ≠ 10 := fun e => hb (UInt8.toNat_inj.1 e)
            simp; omega
          generalize b.toNat = X at hx qb
          clear hsk2 hb hbk hdrop hsk hmn hkl
          go_wp2_with fail
          go_roundw
          case rel => exact ⟨i + 1, m, a, by omega, by omega, by omega, by go_num, rfl, rfl, HSk, trivial⟩
          case measure => simp [intOf]; omega
      · rw [if_neg hmn] at hsk2
        injection hsk2 with e1 e2
        subst e1 e2
        clear hx hbk b hdrop hkl hmn
        clear HPs
        rcases HLast.out with he | he
        · have HPz := Lib.hid (HL0.out he _ HD.out)
          clear he HLast HL0 HL1
          go_upto_region 16 with (go_at_call 11; refine (HPz.out).mono ?_; rintro r w3 ⟨⟨Bg, Bt, Bh, Ba, mg, mt, mh, ma, xg, xt, xh, xa, rfl⟩, b3⟩)
          have hP := (Blk.new w3 26 #[.slice Bg mg xg, .slice Bt mt xt, .slice Bh mh xh, .slice Ba ma xa]).alloc (.cells #[.int .i64 0, .int .i64 (n2 : Int), .int .i64 (x2 : Int)] 34)
          have hF := Blk.new (w3.alloc (.cells #[.slice Bg mg xg, .slice Bt mt xt, .slice Bh mh xh, .slice Ba ma xa] 26)) 34 #[.int .i64 0, .int .i64 (n2 : Int), .int .i64 (x2 : Int)]
          rw [show (w3.alloc (.cells #[.slice Bg mg xg, .slice Bt mt xt, .slice Bh mh xh, .slice Ba ma xa] 26)).heap.size = w3.heap.size + 1 by simp] at hF
          have hD := after (boxed w3 (.cells #[.slice Bg mg xg, .slice Bt mt xt, .slice Bh mh xh, .slice Ba ma xa] 26)) (boxed (w3.alloc (.cells #[.slice Bg mg xg, .slice Bt mt xt, .slice Bh mh xh, .slice Ba ma xa] 26)) (.cells #[.int .i64 0, .int .i64 (n2 : Int), .int .i64 (x2 : Int)] 34))
          have HA4 := Lib.hid hP
          have HB4 := Lib.hid hF
          have HD4 := Lib.hid (after (after HD.out b3) hD)
          clear hP hF hD
          generalize (w3.alloc (.cells #[.slice Bg mg xg, .slice Bt mt xt, .slice Bh mh xh, .slice Ba ma xa] 26)).alloc (.cells #[.int .i64 0, .int .i64 (n2 : Int), .int .i64 (x2 : Int)] 34) = w4 at HA4 HB4 HD4 ⊢
          generalize w3.heap.size + 1 = F2 at HB4 ⊢
          have g0 := HB4.out.cell 0
          simp at g0
          go_wp2_with (go_at_call 8; (with_reducible refine (HWk.out _ HD4.out).mono ?_); rintro r w5 ⟨rfl, b5⟩)
          go_ret
          exact ⟨rfl, after HD4.out b5⟩
        · have HPz := Lib.hid (HL1.out he _ HD.out)
          clear he HLast HL0 HL1
          go_upto_region 16 with (go_at_call 11; refine (HPz.out).mono ?_; rintro r w3 ⟨⟨Bg, Bt, Bh, Ba, mg, mt, mh, ma, xg, xt, xh, xa, rfl⟩, b3⟩)
          have hP := (Blk.new w3 26 #[.slice Bg mg xg, .slice Bt mt xt, .slice Bh mh xh, .slice Ba ma xa]).alloc (.cells #[.int .i64 196, .int .i64 (n2 : Int), .int .i64 (x2 : Int)] 34)
          have hF := Blk.new (w3.alloc (.cells #[.slice Bg mg xg, .slice Bt mt xt, .slice Bh mh xh, .slice Ba ma xa] 26)) 34 #[.int .i64 196, .int .i64 (n2 : Int), .int .i64 (x2 : Int)]
          rw [show (w3.alloc (.cells #[.slice Bg mg xg, .slice Bt mt xt, .slice Bh mh xh, .slice Ba ma xa] 26)).heap.size = w3.heap.size + 1 by simp] at hF
          have hD := after (boxed w3 (.cells #[.slice Bg mg xg, .slice Bt mt xt, .slice Bh mh xh, .slice Ba ma xa] 26)) (boxed (w3.alloc (.cells #[.slice Bg mg xg, .slice Bt mt xt, .slice Bh mh xh, .slice Ba ma xa] 26)) (.cells #[.int .i64 196, .int .i64 (n2 : Int), .int .i64 (x2 : Int)] 34))
          have HA4 := Lib.hid hP
          have HB4 := Lib.hid hF
          have HD4 := Lib.hid (after (after HD.out b3) hD)
          clear hP hF hD
          generalize (w3.alloc (.cells #[.slice Bg mg xg, .slice Bt mt xt, .slice Bh mh xh, .slice Ba ma xa] 26)).alloc (.cells #[.int .i64 196, .int .i64 (n2 : Int), .int .i64 (x2 : Int)] 34) = w4 at HA4 HB4 HD4 ⊢
          generalize w3.heap.size + 1 = F2 at HB4 ⊢
          have g0 := HB4.out.cell 0
          simp at g0
          go_wp2_with (go_at_call 8; (with_reducible refine (HWk.out _ HD4.out).mono ?_); rintro r w5 ⟨rfl, b5⟩)
          go_ret
          exact ⟨rfl, after HD4.out b5⟩
    · obtain rfl : s.size = i := by omega
      have hsk2 := hsk.out
      rw [List.drop_eq_nil_of_le (by have := HSl.out; omega)] at hsk2
      injection hsk2 with e1 e2
      subst e1 e2
      clear HPs
      rcases HLast.out with he | he
      · have HPz := Lib.hid (HL0.out he _ HD.out)
        clear he HLast HL0 HL1
        go_upto_region 16 with (go_at_call 11; refine (HPz.out).mono ?_; rintro r w3 ⟨⟨Bg, Bt, Bh, Ba, mg, mt, mh, ma, xg, xt, xh, xa, rfl⟩, b3⟩)
        have hP := (Blk.new w3 26 #[.slice Bg mg xg, .slice Bt mt xt, .slice Bh mh xh, .slice Ba ma xa]).alloc (.cells #[.int .i64 0, .int .i64 (n2 : Int), .int .i64 (x2 : Int)] 34)
        have hF := Blk.new (w3.alloc (.cells #[.slice Bg mg xg, .slice Bt mt xt, .slice Bh mh xh, .slice Ba ma xa] 26)) 34 #[.int .i64 0, .int .i64 (n2 : Int), .int .i64 (x2 : Int)]
        rw [show (w3.alloc (.cells #[.slice Bg mg xg, .slice Bt mt xt, .slice Bh mh xh, .slice Ba ma xa] 26)).heap.size = w3.heap.size + 1 by simp] at hF
        have hD := after (boxed w3 (.cells #[.slice Bg mg xg, .slice Bt mt xt, .slice Bh mh xh, .slice Ba ma xa] 26)) (boxed (w3.alloc (.cells #[.slice Bg mg xg, .slice Bt mt xt, .slice Bh mh xh, .slice Ba ma xa] 26)) (.cells #[.int .i64 0, .int .i64 (n2 : Int), .int .i64 (x2 : Int)] 34))
        have HA4 := Lib.hid hP
        have HB4 := Lib.hid hF
        have HD4 := Lib.hid (after (after HD.out b3) hD)
        clear hP hF hD
        generalize (w3.alloc (.cells #[.slice Bg mg xg, .slice Bt mt xt, .slice Bh mh xh, .slice Ba ma xa] 26)).alloc (.cells #[.int .i64 0, .int .i64 (n2 : Int), .int .i64 (x2 : Int)] 34) = w4 at HA4 HB4 HD4 ⊢
        generalize w3.heap.size + 1 = F2 at HB4 ⊢
        have g0 := HB4.out.cell 0
        simp at g0
        go_wp2_with (go_at_call 8; (with_reducible refine (HWk.out _ HD4.out).mono ?_); rintro r w5 ⟨rfl, b5⟩)
        go_ret
        exact ⟨rfl, after HD4.out b5⟩
      · have HPz := Lib.hid (HL1.out he _ HD.out)
        clear he HLast HL0 HL1
        go_upto_region 16 with (go_at_call 11; refine (HPz.out).mono ?_; rintro r w3 ⟨⟨Bg, Bt, Bh, Ba, mg, mt, mh, ma, xg, xt, xh, xa, rfl⟩, b3⟩)
        have hP := (Blk.new w3 26 #[.slice Bg mg xg, .slice Bt mt xt, .slice Bh mh xh, .slice Ba ma xa]).alloc (.cells #[.int .i64 196, .int .i64 (n2 : Int), .int .i64 (x2 : Int)] 34)
        have hF := Blk.new (w3.alloc (.cells #[.slice Bg mg xg, .slice Bt mt xt, .slice Bh mh xh, .slice Ba ma xa] 26)) 34 #[.int .i64 196, .int .i64 (n2 : Int), .int .i64 (x2 : Int)]
        rw [show (w3.alloc (.cells #[.slice Bg mg xg, .slice Bt mt xt, .slice Bh mh xh, .slice Ba ma xa] 26)).heap.size = w3.heap.size + 1 by simp] at hF
        have hD := after (boxed w3 (.cells #[.slice Bg mg xg, .slice Bt mt xt, .slice Bh mh xh, .slice Ba ma xa] 26)) (boxed (w3.alloc (.cells #[.slice Bg mg xg, .slice Bt mt xt, .slice Bh mh xh, .slice Ba ma xa] 26)) (.cells #[.int .i64 196, .int .i64 (n2 : Int), .int .i64 (x2 : Int)] 34))
        have HA4 := Lib.hid hP
        have HB4 := Lib.hid hF
        have HD4 := Lib.hid (after (after HD.out b3) hD)
        clear hP hF hD
        generalize (w3.alloc (.cells #[.slice Bg mg xg, .slice Bt mt xt, .slice Bh mh xh, .slice Ba ma xa] 26)).alloc (.cells #[.int .i64 196, .int .i64 (n2 : Int), .int .i64 (x2 : Int)] 34) = w4 at HA4 HB4 HD4 ⊢
        generalize w3.heap.size + 1 = F2 at HB4 ⊢
        have g0 := HB4.out.cell 0
        simp at g0
        go_wp2_with (go_at_call 8; (with_reducible refine (HWk.out _ HD4.out).mono ?_); rintro r w5 ⟨rfl, b5⟩)
        go_ret
        exact ⟨rfl, after HD4.out b5⟩
end Go.Proofs.YtbiglifngfgffaaGreatDoor

/- The frame of the policy laws: what the rows list, as what the walks ask for. -/
namespace Go.Proofs.YtbiglifngfgffaaGreatDoor
open Go.ChangeShapes Go.WideShapes Go.ChangeAt Go.RowKit

theorem tab_of {P : Program} {W : World} {name : String} {k : IntKind} {zs : List Int} {g : Nat} {t e : TypeId} {n : Nat}
    (hg : P.globalNamed name = some g) (hty : (P.globals[g]?).map (·.type) = some t) (ht : P.underlying t = some (.array n e)) (he : P.underlying e = some (.int k)) (hce : P.cellsOf e = 1) (hct : P.cellsOf t = n)
    (h : Lib.VarReads P W name (Lib.tabData k zs)) : Lib.TabIs P W name k zs := by
  obtain ⟨g', t', cs, fuel, p, hg', ht', hvar, hd⟩ := h
  obtain rfl := Option.some.inj (hg.symm.trans hg')
  obtain rfl := Option.some.inj (hty.symm.trans ht')
  unfold Lib.TabIs
  rw [hvar, ← Lib.cells_of_tab ht he hce hct hd]
theorem iface_of {P : Program} {W : World} {name nm : String} {d : DataW Unit} {g : Nat} {t : TypeId} {ms : Array (String × TypeId)}
    (hg : P.globalNamed name = some g) (hty : (P.globals[g]?).map (·.type) = some t) (ht : P.underlying t = some (.interface ms))
    (h : Lib.VarReads P W name (.iface nm d)) : ∃ (tp : TypeId) (p : Value), W.cell? ⟨g, 0, none⟩ = some (.iface tp p) := by
  obtain ⟨g', t', cs, fuel, p, hg', ht', hvar, hd⟩ := h
  obtain rfl := Option.some.inj (hg.symm.trans hg')
  obtain rfl := Option.some.inj (hty.symm.trans ht')
  have hc := World.var?_cell hg hvar 0
  obtain ⟨l⟩ := cs
  cases fuel with
  | zero => simp [DataW.trod] at hd
  | succ fuel =>
    cases l with
    | nil => simp [DataW.trod, ht] at hd
    | cons x r =>
      cases r with
      | cons y r => simp [DataW.trod, ht] at hd
      | nil =>
        cases x
        case iface tp q => exact ⟨tp, q, by simpa using hc⟩
        all_goals simp [DataW.trod, ht] at hd

variable {H : Type} {enc : TypeId × Value → H}
/- The wrap for a row that lists variables and needs the world's shape too. -/
theorem of_change_and_shaped {a : Assume} {C : Checked} {os : Os} {f : FuncId} {fn : Func} {s : ChangeSpec} {conds : List PathCond} {apart fresh handsOn again : Bool} {X : World → Array Value → Prop}
    (hX : ∀ (w w' : World) (args : Array Value), w.heap = w'.heap → X w args → X w' args)
    (own : ownKnob C.prog.godebug = none) (started : os.Started) (noInit : C.prog.inits.idxOf? f = none) (hfn : C.prog.funcs[f]? = some fn)
    (witness : ∃ (w : World) (tape : Tape) (i : Input), w.os = os ∧ (w.forCall tape i).Shaped C.prog ∧ i.vars = [] ∧ Input.okWide C.prog (w.forCall tape i) .any w.heap.size f i ∧
      ((s.pre enc C.prog fn conds apart (w.forCall tape i).memory i.args ∧ X (w.forCall tape i).memory i.args) ∧ sizedMet enc C.prog fn (OpenSpec.ofChange s) apart (w.forCall tape i).memory i.args) ∧ a.holds C.prog (lone (Frame.enter C.prog f i.args .normal) [] (w.forCall tape i)))
    (contract : ∀ (W : World) (base : Nat) (args : Array Value) (ds gs : List (DataW H)) (before : List MemPlace),
      (∀ (j : Nat) t v, fn.params[j]? = some t → args[j]? = some v → Value.okWide C.prog W .any base t v) →
      DataW.Whole enc C.prog fn.params.toList s.vars apart W args.toList ds gs before →
      conds.all (PathCond.test C.prog ⟨fn.params.toList, ds, s.plain.varTypes C.prog, gs⟩) = true →
      X W args → W.ShapedOpen C.prog →
      Calls C.prog f args W fun e W' => ∃ v, e = .returned v ∧ s.post enc C.prog fn apart fresh handsOn again W args v W') :
    ReturnsInHanded a C os f .any (fun w args => (s.pre enc C.prog fn conds apart w args ∧ X w args) ∧ sizedMet enc C.prog fn (OpenSpec.ofChange s) apart w args) (s.post enc C.prog fn apart fresh handsOn again) := by
  refine returnsInHanded_of_calls own started noInit witness ?_
  intro w tape i _ hsh _ hok hpre _
  obtain ⟨_, _, _, fn', hfn', _, _, _, _, hval⟩ := hok
  have e : fn' = fn := Option.some.inj (hfn'.symm.trans hfn)
  subst e
  obtain ⟨⟨⟨ds, gs, before, hw, hc⟩, hx⟩, _⟩ := hpre
  have hw' := DataW.Whole.of_heap (w' := w.forCall tape i) (by rfl) hw
  refine (contract (w.forCall tape i) w.heap.size i.args ds gs before hval hw' hc (hX _ _ _ (by rfl) hx) hsh).mono fun e W' ⟨v, he, hp⟩ => ?_
  subst he
  exact ChangeSpec.post_blind hp

def seatLaid : List (String × DataW Unit) := Rows.policyPlacesRow.laid
set_option maxRecDepth 100000 in
theorem env_of {W : World} (hL : laidMetH Tryz.prog seatLaid W) (hsh : W.ShapedOpen Tryz.prog) : Env W := by
  rw [MakeChecks.laidMetH_plain _ _ _ (by kernel_rfl)] at hL
  refine ⟨?_, ?_, ?_, ?_, ?_⟩
  · exact Go.Proofs.cell_of_shapedOpen_int (zero := #[.int .i64 0]) (t := 3) hsh (of_decide_eq_true (by kernel_rfl)) (by kernel_rfl) rfl (by kernel_rfl) (by kernel_rfl) Tryz.underlying3
  · have h : Lib.VarReads Tryz.prog W "internal/strconv.uint64pow10" (Lib.tabData .u64 Lib.pow10Tab) := Lib.laidMet.reads hL (.tail _ (.tail _ (.head _)))
    exact tab_of (g := 3) (t := 208) (e := 47) (n := 20) (by kernel_rfl) (by kernel_rfl) (by kernel_rfl) (by kernel_rfl) (by kernel_rfl) (by kernel_rfl) h
  · have h : Lib.VarReads Tryz.prog W "math/bits.deBruijn64tab" (Lib.tabData .u8 [0, 1, 56, 2, 57, 49, 28, 3, 61, 58, 42, 50, 38, 29, 17, 4, 62, 47, 59, 36, 45, 43, 51, 22, 53, 39, 33, 30, 24, 18, 12, 5, 63, 55, 48, 27, 60, 41, 37, 16, 46, 35, 44, 21, 52, 32, 23, 11, 54, 26, 40, 15, 34, 20, 31, 10, 25, 14, 19, 9, 13, 8, 7, 6]) := Lib.laidMet.reads hL (.tail _ (.head _))
    exact (tab_of (g := 7) (t := 227) (e := 5) (n := 64) (by kernel_rfl) (by kernel_rfl) (by kernel_rfl) (by kernel_rfl) (by kernel_rfl) (by kernel_rfl) h).cell (by kernel_rfl) 15 (by decide)
  · exact iface_of (g := 4) (t := 64) (by kernel_rfl) (by kernel_rfl) Tryz.underlying64 (Lib.laidMet.reads hL (.tail _ (.tail _ (.tail _ (.tail _ (.tail _ (.head _)))))))
  · exact iface_of (g := 5) (t := 64) (by kernel_rfl) (by kernel_rfl) Tryz.underlying64 (Lib.laidMet.reads hL (.tail _ (.tail _ (.tail _ (.tail _ (.head _))))))
theorem own : ownKnob Tryz.prog.godebug = none := by kernel_rfl
end Go.Proofs.YtbiglifngfgffaaGreatDoor
