/- Joined out of: PxL PwM PzA PwN PwO. -/
import Derived.Test.YtbiglifngfgffaaGreatDoorJas
import Derived.Test.YtbiglifngfgffaaGreatDoorJau
import Derived.Test.YtbiglifngfgffaaGreatDoorRows
import Derived.Test.YtbiglifngfgffaaGreatDoorTie
import Derived.Test.YtbiglifngfgffaaGreatDoorCards
import Derived.WalkKit
import Derived.ProofKit
import Derived.OpenShut
import Derived.ShutString
import Derived.ChangeMaps5
import Derived.HandedShaped
import Derived.LaidMore
import Derived.Lay
import Derived.SevenTiedAt
import Derived.Shelf.Vars
import Derived.Lib.LaidU8
import Derived.Deep.QuietTactic
import Derived.BigQuiet
import Derived.Test.YtbiglifngfgffaaGreatDoorJaq
set_option linter.unusedVariables false
set_option linter.unusedSimpArgs false

/- What is read fits; the known run (works): the walk. -/
namespace Go.Proofs.YtbiglifngfgffaaGreatDoor
open Go.RowKit
attribute [local go_sem ↓] Go.wp_at_zero Go.wp_at_succ

theorem label_size {s : ByteArray} (h : labelB s = true) : s.size ≤ 33 := by
  have e : s.size = s.data.toList.length := by rw [Array.length_toList]; rfl
  unfold labelB at h
  generalize s.data.toList = l at h e
  cases l with
  | nil => rw [e]; decide
  | cons c r =>
    unfold labelL at h
    simp only [Bool.and_eq_true, decide_eq_true_eq] at h
    simp only [List.length_cons] at e
    omega
theorem kindN_le (k : List UInt8) : kindN k ≤ 6 := by
  unfold kindN
  repeat' split
  all_goals decide
theorem sel_fit {w : ByteArray} {s : Sel} (h : selP w = some s) : SelFit s := by
  have hz : Pf.zero.Ok := ⟨⟨by decide, by decide⟩, by decide⟩
  cases selP_is h with
  | star h1 h2 => subst h2; exact ⟨hz, by decide, by decide⟩
  | named k nm h0 h1 h2 h3 h4 =>
    subst h4
    have h5 : labelB (ofL nm) = true := h3
    have := label_size h5
    exact ⟨hz, Nat.lt_of_le_of_lt (kindN_le k) (by decide), Nat.le_trans this (by decide)⟩
  | net k t n h0 h1 h2 h3 => subst h3; exact ⟨(preadL_some h2).2.1, (by show (6 : Nat) < 256; decide), (by show (0 : Nat) ≤ 1900000; decide)⟩
theorem PoOk.fit {p : Po} (ok : PoOk p) (hm : mayP p = true) : PoFit p := by
  obtain ⟨m1, m2, m3, m4, m5, m6, m7⟩ := mayP_ok hm
  have hnm : ∀ l : List Nm, mayNm l = true → (∀ n ∈ l, NmFit n) ∧ l.length ≤ 64 := by
    intro l hl
    unfold mayNm at hl
    simp only [Bool.and_eq_true, decide_eq_true_eq] at hl
    refine ⟨fun n hn => ?_, hl.1.2⟩
    have := List.all_eq_true.1 hl.1.1 n hn
    simp only [Bool.and_eq_true, decide_eq_true_eq] at this
    exact ⟨Nat.le_trans (label_size this.1.1.1) (by decide), by omega, fun s hs => Nat.le_trans (label_size (List.all_eq_true.1 this.2 s hs)) (by decide)⟩
  obtain ⟨g1, g2⟩ := hnm _ m1
  obtain ⟨t1, t2⟩ := hnm _ m2
  refine ⟨g1, t1, fun x hx => ⟨Nat.le_trans (label_size (m5 x hx).1) (by decide), ok.hosts x hx⟩, fun a ha => ?_, by omega, by omega, by omega, by omega⟩
  have h := m6 a ha
  unfold mayAc at h
  simp only [Bool.and_eq_true, decide_eq_true_eq] at h
  obtain ⟨⟨⟨⟨⟨h1, h2⟩, h3⟩, h4⟩, h5⟩, h6⟩ := h
  obtain ⟨s1, s2, s3⟩ := maySels_ok h5
  obtain ⟨d1, d2, d3⟩ := maySels_ok h6
  refine ⟨fun s hs => sel_fit (s1 s hs).1, fun s hs => sel_fit (d1 s hs).1, Nat.le_trans (rising_small _ h2 h3) (by decide), by omega, by omega, by omega, fun x hx => ?_, ok.ports a ha⟩
  have := List.all_eq_true.1 h2 x hx
  simp only [Bool.or_eq_true, decide_eq_true_eq] at this
  omega

/- The two texts of the known run. -/
def WT1 : ByteArray := ⟨([103, 114, 111, 117, 112, 32, 100, 101, 118, 32, 61, 32, 97, 110, 110, 32, 98, 111, 98, 10, 116, 97, 103, 32, 119, 101, 98, 32, 61, 32, 97, 110, 110, 10, 97, 99, 99, 101, 112, 116, 32, 116, 99, 112, 44, 117, 100, 112, 32, 102, 114, 111, 109].append [32, 103, 114, 111, 117, 112, 58, 100, 101, 118, 32, 110, 101, 116, 58, 49, 48, 46, 48, 46, 48, 46, 48, 47, 56, 32, 116, 111, 32, 116, 97, 103, 58, 119, 101, 98, 32, 112, 111, 114, 116, 115, 32, 56, 48, 32, 52, 52, 51, 45, 52, 52, 52, 10]).toArray⟩
def WT2 : ByteArray := ⟨#[97, 99, 99, 101, 112, 116, 32, 97, 110, 121, 32, 102, 114, 111, 109, 32, 116, 97, 103, 58, 120, 32, 116, 111, 32, 42]⟩
theorem wt1_flt : (parseP WT1.data.toList).2 = (0, 0, 0) := by decide +kernel
theorem wt1_acls : ((parseP WT1.data.toList).1.acls.map fun a => (a.src.length, a.ports.length)) = [(2, 2)] := by decide +kernel
theorem wt1_text : (textP (parseP WT1.data.toList).1).length = 107 := by decide +kernel
theorem wt2_flt : (parseP WT2.data.toList).2 = (196, 1, 3) := by decide +kernel

set_option maxRecDepth 100000 in
theorem works_first {w : World} (env : Env w) : Calls Tryz.prog 11 #[.string WT1] w fun r w' => ∃ (p : Po) (Ag At Ah : Option Addr) (lg lt lh cg ct ch ca q o : Nat) (v0 : Value) (As : Option Addr) (cs : Nat) (v2 : Value) (Ao : Option Addr) (co : Nat), r = .returned (.tuple #[.agg #[.slice Ag lg cg, .slice At lt ct, .slice Ah lh ch, .slice (some ⟨q, o, none⟩) 1 ca], .agg #[.int .i64 0, .int .i64 0, .int .i64 0]]) ∧ PoRd w' ⟨.slice Ag lg cg, .slice At lt ct, .slice Ah lh ch, .slice (some ⟨q, o, none⟩) 1 ca⟩ p ∧ PoFit p ∧ textR p = .tuple #[.string (ofL (textP p)), .int .i64 0] ∧ (ofL (textP p)).size = 107 ∧ w'.cell? ⟨q, o, none⟩ = some v0 ∧ w'.cell? ⟨q, o + 1, none⟩ = some (.slice As 2 cs) ∧ w'.cell? ⟨q, o + 2, none⟩ = some v2 ∧ w'.cell? ⟨q, o + 3, none⟩ = some (.slice Ao 2 co) ∧ Below w.heap.size w w' := by
  refine (parse_any env WT1 (by decide)).mono ?_
  rintro r w' ⟨⟨V, rfl, hrd⟩, d⟩
  have hf := wt1_flt
  have ha := wt1_acls
  have ht := wt1_text
  have hm := parse_may (s := WT1.data.toList) (q := (parseP WT1.data.toList).1) (f := (parseP WT1.data.toList).2) rfl (by rw [hf])
  obtain ⟨_, hmay, hok⟩ := hm
  rw [hf]
  generalize (parseP WT1.data.toList).1 = p at hrd ha ht hmay hok
  obtain ⟨xs, hxs, hra, hin⟩ := hrd.a
  obtain ⟨gv, tv, hv, av⟩ := V
  obtain ⟨Ag, cg, eg⟩ := hrd.g.shape
  obtain ⟨At, ct, et⟩ := hrd.t.shape
  obtain ⟨Ah, ch, eh⟩ := hrd.h.shape
  obtain ⟨Aa, ca, ea⟩ := hra.shape
  simp only at eg et eh ea
  subst eg et eh ea
  have hl : p.acls.length = 1 := by have := congrArg List.length ha; rwa [List.length_map] at this
  have hl2 : xs.length = 1 := by have := congrArg List.length hxs; rw [List.length_map] at this; omega
  simp only [hl] at hra
  obtain ⟨q, o, rfl, hc⟩ := hra.cell (Below.refl _ _) (by decide)
  obtain ⟨X, rfl⟩ : ∃ X, xs = [X] := by
    match xs, hl2 with
    | [X], _ => exact ⟨X, rfl⟩
  rw [← hxs] at ha
  simp only [List.map_cons, List.map_nil, List.cons.injEq, Prod.mk.injEq, and_true] at ha
  obtain ⟨a1, a2⟩ := ha
  have hX := hin X (by simp)
  obtain ⟨As, cs, es⟩ := hX.s.shape
  obtain ⟨Ao, co, eo⟩ := hX.o.shape
  rw [a1] at es
  rw [a2] at eo
  obtain ⟨e0, e1, e2, e3⟩ := acCells_at [X] 0 X rfl
  have d0 := hc _ _ e0
  have d1 := hc _ _ e1
  have d2 := hc _ _ e2
  have d3 := hc _ _ e3
  rw [es] at d1
  rw [eo] at d3
  refine ⟨p, Ag, At, Ah, p.groups.length, p.tags.length, p.hosts.length, cg, ct, ch, ca, q, o, X.p, As, cs, X.d, Ao, co, (by rw [hl]; rfl), (by have h2 := hrd; rw [hl] at h2; exact h2), hok.fit hmay, ?_, ?_, d0, d1, d2, d3, d⟩
  · unfold textR
    rw [if_pos hmay, if_pos (by omega)]
  · simpa [ofL, ByteArray.size] using ht
set_option maxRecDepth 100000 in
theorem works_second {w : World} (env : Env w) : Calls Tryz.prog 11 #[.string WT2] w fun r w' => (∃ (Ag At Ah Aa : Option Addr) (lg lt lh la cg ct ch ca : Nat), r = .returned (.tuple #[.agg #[.slice Ag lg cg, .slice At lt ct, .slice Ah lh ch, .slice Aa la ca], .agg #[.int .i64 196, .int .i64 1, .int .i64 3]])) ∧ Below w.heap.size w w' := by
  refine (parse_any env WT2 (by decide)).mono ?_
  rintro r w' ⟨⟨V, rfl, hrd⟩, d⟩
  have hf := wt2_flt
  rw [hf]
  obtain ⟨gv, tv, hv, av⟩ := V
  obtain ⟨Ag, cg, eg⟩ := hrd.g.shape
  obtain ⟨At, ct, et⟩ := hrd.t.shape
  obtain ⟨Ah, ch, eh⟩ := hrd.h.shape
  obtain ⟨Aa, ca, ea⟩ := hrd.a.shape
  simp only at eg et eh ea
  subst eg et eh ea
  exact ⟨⟨Ag, At, Ah, Aa, _, _, _, _, cg, ct, ch, ca, rfl⟩, d⟩
theorem lab_ab (w : World) : Calls Tryz.prog 16 #[.string ⟨#[97, 46, 98]⟩] w (Got (.bool true) w) := label_any ⟨#[97, 46, 98]⟩ (by decide) w
theorem lab_A (w : World) : Calls Tryz.prog 16 #[.string ⟨#[65]⟩] w (Got (.bool false) w) := label_any ⟨#[65]⟩ (by decide) w

set_option maxHeartbeats 8000000 in
set_option maxRecDepth 100000 in
theorem works_any {w : World} (env : Env w) : Calls Tryz.prog 8 #[] w (Got (.bool true) w) := by
  have HEnv := Lib.hid env
  have HP1 := Lib.hid (works_first env)
  clear env
  go_enter Tryz.func8, Tryz.ntmps8
  go_upto_region 2 with (go_at_call 11; refine (HP1.out).mono ?_; rintro r w1 ⟨p, Ag, At, Ah, lg, lt, lh, cg, ct, ch, ca, q, o, v0, As, cs, v2, Ao, co, rfl, hrd, hfit, htr, hts, d0, d1, d2, d3, b1⟩)
  have hP := (Blk.new w1 26 #[.slice Ag lg cg, .slice At lt ct, .slice Ah lh ch, .slice (some ⟨q, o, none⟩) 1 ca]).alloc (.cells #[.int .i64 0, .int .i64 0, .int .i64 0] 34)
  have hF := Blk.new (w1.alloc (.cells #[.slice Ag lg cg, .slice At lt ct, .slice Ah lh ch, .slice (some ⟨q, o, none⟩) 1 ca] 26)) 34 #[.int .i64 0, .int .i64 0, .int .i64 0]
  rw [show (w1.alloc (.cells #[.slice Ag lg cg, .slice At lt ct, .slice Ah lh ch, .slice (some ⟨q, o, none⟩) 1 ca] 26)).heap.size = w1.heap.size + 1 by simp] at hF
  have hD := after (boxed w1 (.cells #[.slice Ag lg cg, .slice At lt ct, .slice Ah lh ch, .slice (some ⟨q, o, none⟩) 1 ca] 26)) (boxed (w1.alloc (.cells #[.slice Ag lg cg, .slice At lt ct, .slice Ah lh ch, .slice (some ⟨q, o, none⟩) 1 ca] 26)) (.cells #[.int .i64 0, .int .i64 0, .int .i64 0] 34))
  have HA := Lib.hid hP
  have HB := Lib.hid hF
  have HD := Lib.hid hD
  clear hP hF hD
  generalize (w1.alloc (.cells #[.slice Ag lg cg, .slice At lt ct, .slice Ah lh ch, .slice (some ⟨q, o, none⟩) 1 ca] 26)).alloc (.cells #[.int .i64 0, .int .i64 0, .int .i64 0] 34) = w2 at HA HB HD ⊢
  have HB2 := Lib.hid (after b1 HD.out)
  have HP2 := Lib.hid (works_second (HEnv.out.below HB2.out))
  go_upto_region 3 with (go_at_call 11; refine (HP2.out).mono ?_; rintro r w3 ⟨⟨Bg, Bt, Bh, Ba, mg, mt, mh, ma, xg, xt, xh, xa, rfl⟩, b3⟩)
  have HA3 := Lib.hid (HA.out.below b3 HA.out.lt)
  have HBB3 := Lib.hid (HB.out.below b3 HB.out.lt)
  have HD3 := Lib.hid (after HD.out b3)
  have HB3 := Lib.hid (after HB2.out b3)
  generalize w1.heap.size + 1 = F1 at HBB3 HB ⊢
  generalize hP1 : w1.heap.size = P1 at HA3 HA ⊢
  clear hP1 HA HB HD HB2 HP1 HP2 b3
  have hP := (Blk.new w3 26 #[.slice Bg mg xg, .slice Bt mt xt, .slice Bh mh xh, .slice Ba ma xa]).alloc (.cells #[.int .i64 196, .int .i64 1, .int .i64 3] 34)
  have hF := Blk.new (w3.alloc (.cells #[.slice Bg mg xg, .slice Bt mt xt, .slice Bh mh xh, .slice Ba ma xa] 26)) 34 #[.int .i64 196, .int .i64 1, .int .i64 3]
  rw [show (w3.alloc (.cells #[.slice Bg mg xg, .slice Bt mt xt, .slice Bh mh xh, .slice Ba ma xa] 26)).heap.size = w3.heap.size + 1 by simp] at hF
  have hD := after (boxed w3 (.cells #[.slice Bg mg xg, .slice Bt mt xt, .slice Bh mh xh, .slice Ba ma xa] 26)) (boxed (w3.alloc (.cells #[.slice Bg mg xg, .slice Bt mt xt, .slice Bh mh xh, .slice Ba ma xa] 26)) (.cells #[.int .i64 196, .int .i64 1, .int .i64 3] 34))
  have HC := Lib.hid hP
  have HE := Lib.hid hF
  have HD4 := Lib.hid hD
  clear hP hF hD
  generalize (w3.alloc (.cells #[.slice Bg mg xg, .slice Bt mt xt, .slice Bh mh xh, .slice Ba ma xa] 26)).alloc (.cells #[.int .i64 196, .int .i64 1, .int .i64 3] 34) = w4 at HC HE HD4 ⊢
  have HA4 := Lib.hid (HA3.out.below HD4.out HA3.out.lt)
  have HBB4 := Lib.hid (HBB3.out.below HD4.out HBB3.out.lt)
  have HB4 := Lib.hid (after HB3.out HD4.out)
  have e4 := after HD3.out HD4.out
  have HT := policyText_any (HEnv.out.below HB4.out) (hrd.below e4) hfit
  rw [htr] at HT
  have c0 := (e4.cell (World.block_lt_of_cell? w1 _ d0)).trans d0
  have c1 := (e4.cell (World.block_lt_of_cell? w1 _ d1)).trans d1
  have c2 := (e4.cell (World.block_lt_of_cell? w1 _ d2)).trans d2
  have c3 := (e4.cell (World.block_lt_of_cell? w1 _ d3)).trans d3
  generalize ofL (textP p) = TX at HT hts
  have HTx := Lib.hid HT
  have HTs := Lib.hid hts
  generalize w3.heap.size + 1 = F2 at HE ⊢
  generalize w3.heap.size = P2 at HC ⊢
  clear HT hts htr hfit hrd d0 d1 d2 d3 e4 HD3 HD4 HA3 HBB3 HB3 HC
  have p0 := HA4.out.cell 0
  have p1 := HA4.out.cell 1
  have p2 := HA4.out.cell 2
  have p3 := HA4.out.cell 3
  simp at p0 p1 p2 p3
  go_upto_region 4 with (go_at_call 9; (with_reducible refine HTx.out.mono ?_); rintro r w5 ⟨rfl, b5⟩)
  have r3 := (HA4.out.below b5 HA4.out.lt).cell 3
  have f0 := (HBB4.out.below b5 HBB4.out.lt).cell 0
  have g0 := (HE.out.below b5 HE.out.lt).cell 0
  have g1 := (HE.out.below b5 HE.out.lt).cell 1
  have g2 := (HE.out.below b5 HE.out.lt).cell 2
  have s1 := (b5.cell (World.block_lt_of_cell? w4 _ c1)).trans c1
  have s3 := (b5.cell (World.block_lt_of_cell? w4 _ c3)).trans c3
  have HB5 := Lib.hid (after HB4.out b5)
  simp at r3 f0 g0 g1 g2
  clear c0 c1 c2 c3 p0 p1 p2 p3 HTx b5
  have hz : (60 : Int) < (TX.size : Int) := by have := HTs.out; omega
  go_wp2_with (first
    | (go_at_call 16; (with_reducible refine (lab_ab _).mono ?_); rintro r w6 ⟨rfl, b6⟩; have HB6 := Lib.hid (after HB5.out b6); clear b6)
    | (go_at_call 16; (with_reducible refine (lab_A _).mono ?_); rintro r w7 ⟨rfl, b7⟩; have HB7 := Lib.hid (after HB6.out b7); clear b7))
  go_ret
  exact ⟨rfl, HB7.out⟩
end Go.Proofs.YtbiglifngfgffaaGreatDoor

/- What Parse answers, its shapes laid open. -/
namespace Go.Proofs.YtbiglifngfgffaaGreatDoor
open Go.RowKit
attribute [local go_sem ↓] Go.wp_at_zero Go.wp_at_succ

theorem parse_some {w : World} (env : Env w) (s : ByteArray) (hs : s.size ≤ 2000000) {q : Po} {c n x : Nat} (h : parseP s.data.toList = (q, (c, n, x))) : Calls Tryz.prog 11 #[.string s] w fun r w' => (∃ (Ag At Ah Aa : Option Addr) (cg ct ch ca : Nat), r = .returned (.tuple #[.agg #[.slice Ag q.groups.length cg, .slice At q.tags.length ct, .slice Ah q.hosts.length ch, .slice Aa q.acls.length ca], .agg #[.int .i64 (c : Int), .int .i64 (n : Int), .int .i64 (x : Int)]]) ∧ PoRd w' ⟨.slice Ag q.groups.length cg, .slice At q.tags.length ct, .slice Ah q.hosts.length ch, .slice Aa q.acls.length ca⟩ q) ∧ Below w.heap.size w w' := by
  refine (parse_any env s hs).mono ?_
  rintro r w' ⟨⟨V, rfl, hrd⟩, d⟩
  rw [h] at hrd ⊢
  simp only at hrd
  obtain ⟨gv, tv, hv, av⟩ := V
  obtain ⟨Ag, cg, eg⟩ := hrd.g.shape
  obtain ⟨At, ct, et⟩ := hrd.t.shape
  obtain ⟨Ah, ch, eh⟩ := hrd.h.shape
  obtain ⟨Aa, ca, ea⟩ := hrd.a.shape
  simp only at eg et eh ea
  subst eg et eh ea
  exact ⟨⟨Ag, At, Ah, Aa, cg, ct, ch, ca, rfl, hrd⟩, d⟩

end Go.Proofs.YtbiglifngfgffaaGreatDoor

/- The frame of the policy laws: what the rows list, as what the walks ask for. -/
namespace Go.Proofs.YtbiglifngfgffaaGreatDoor
open Go.ChangeShapes Go.WideShapes Go.ChangeAt Go.RowKit

theorem tab_of {P : Program} {W : World} {name : String} {k : IntKind} {zs : List Int} {g : Nat} {t e : TypeId} {n : Nat}
    (hg : P.globalNamed name = some g) (hty : (P.globals[g]?).map (·.type) = some t) (ht : P.underlying t = some (.array n e)) (he : P.underlying e = some (.int k)) (hce : P.cellsOf e = 1) (hct : P.cellsOf t = n)
    (h : Lib.VarReads P W name (Lib.tabData k zs)) : Lib.TabIs P W name k zs := by
  obtain ⟨g', t', cs, fuel, p, hg', ht', hvar, hd⟩ := h
  obtain rfl := Option.some.inj (hg.symm.trans hg')
  obtain rfl := Option.some.inj (hty.symm.trans ht')
  unfold Lib.TabIs
  rw [hvar, ← Lib.cells_of_tab ht he hce hct hd]
theorem iface_of {P : Program} {W : World} {name nm : String} {d : DataW Unit} {g : Nat} {t : TypeId} {ms : Array (String × TypeId)}
    (hg : P.globalNamed name = some g) (hty : (P.globals[g]?).map (·.type) = some t) (ht : P.underlying t = some (.interface ms))
    (h : Lib.VarReads P W name (.iface nm d)) : ∃ (tp : TypeId) (p : Value), W.cell? ⟨g, 0, none⟩ = some (.iface tp p) := by
  obtain ⟨g', t', cs, fuel, p, hg', ht', hvar, hd⟩ := h
  obtain rfl := Option.some.inj (hg.symm.trans hg')
  obtain rfl := Option.some.inj (hty.symm.trans ht')
  have hc := World.var?_cell hg hvar 0
  obtain ⟨l⟩ := cs
  cases fuel with
  | zero => simp [DataW.trod] at hd
  | succ fuel =>
    cases l with
    | nil => simp [DataW.trod, ht] at hd
    | cons x r =>
      cases r with
      | cons y r => simp [DataW.trod, ht] at hd
      | nil =>
        cases x
        case iface tp q => exact ⟨tp, q, by simpa using hc⟩
        all_goals simp [DataW.trod, ht] at hd

variable {H : Type} {enc : TypeId × Value → H}
/- The wrap for a row that lists variables and needs the world's shape too. -/
theorem of_change_and_shaped {a : Assume} {C : Checked} {os : Os} {f : FuncId} {fn : Func} {s : ChangeSpec} {conds : List PathCond} {apart fresh handsOn again : Bool} {X : World → Array Value → Prop}
    (hX : ∀ (w w' : World) (args : Array Value), w.heap = w'.heap → X w args → X w' args)
    (own : ownKnob C.prog.godebug = none) (started : os.Started) (noInit : C.prog.inits.idxOf? f = none) (hfn : C.prog.funcs[f]? = some fn)
    (witness : ∃ (w : World) (tape : Tape) (i : Input), w.os = os ∧ (w.forCall tape i).Shaped C.prog ∧ i.vars = [] ∧ Input.okWide C.prog (w.forCall tape i) .any w.heap.size f i ∧
      ((s.pre enc C.prog fn conds apart (w.forCall tape i).memory i.args ∧ X (w.forCall tape i).memory i.args) ∧ sizedMet enc C.prog fn (OpenSpec.ofChange s) apart (w.forCall tape i).memory i.args) ∧ a.holds C.prog (lone (Frame.enter C.prog f i.args .normal) [] (w.forCall tape i)))
    (contract : ∀ (W : World) (base : Nat) (args : Array Value) (ds gs : List (DataW H)) (before : List MemPlace),
      (∀ (j : Nat) t v, fn.params[j]? = some t → args[j]? = some v → Value.okWide C.prog W .any base t v) →
      DataW.Whole enc C.prog fn.params.toList s.vars apart W args.toList ds gs before →
      conds.all (PathCond.test C.prog ⟨fn.params.toList, ds, s.plain.varTypes C.prog, gs⟩) = true →
      X W args → W.ShapedOpen C.prog →
      Calls C.prog f args W fun e W' => ∃ v, e = .returned v ∧ s.post enc C.prog fn apart fresh handsOn again W args v W') :
    ReturnsInHanded a C os f .any (fun w args => (s.pre enc C.prog fn conds apart w args ∧ X w args) ∧ sizedMet enc C.prog fn (OpenSpec.ofChange s) apart w args) (s.post enc C.prog fn apart fresh handsOn again) := by
  refine returnsInHanded_of_calls own started noInit witness ?_
  intro w tape i _ hsh _ hok hpre _
  obtain ⟨_, _, _, fn', hfn', _, _, _, _, hval⟩ := hok
  have e : fn' = fn := Option.some.inj (hfn'.symm.trans hfn)
  subst e
  obtain ⟨⟨⟨ds, gs, before, hw, hc⟩, hx⟩, _⟩ := hpre
  have hw' := DataW.Whole.of_heap (w' := w.forCall tape i) (by rfl) hw
  refine (contract (w.forCall tape i) w.heap.size i.args ds gs before hval hw' hc (hX _ _ _ (by rfl) hx) hsh).mono fun e W' ⟨v, he, hp⟩ => ?_
  subst he
  exact ChangeSpec.post_blind hp

def seatLaid : List (String × DataW Unit) := Rows.policyPlacesRow.laid
set_option maxRecDepth 100000 in
theorem env_of {W : World} (hL : laidMetH Tryz.prog seatLaid W) (hsh : W.ShapedOpen Tryz.prog) : Env W := by
  rw [MakeChecks.laidMetH_plain _ _ _ (by kernel_rfl)] at hL
  refine ⟨?_, ?_, ?_, ?_, ?_⟩
  · exact Go.Proofs.cell_of_shapedOpen_int (zero := #[.int .i64 0]) (t := 3) hsh (of_decide_eq_true (by kernel_rfl)) (by kernel_rfl) rfl (by kernel_rfl) (by kernel_rfl) Tryz.underlying3
  · have h : Lib.VarReads Tryz.prog W "internal/strconv.uint64pow10" (Lib.tabData .u64 Lib.pow10Tab) := Lib.laidMet.reads hL (.tail _ (.tail _ (.head _)))
    exact tab_of (g := 3) (t := 208) (e := 47) (n := 20) (by kernel_rfl) (by kernel_rfl) (by kernel_rfl) (by kernel_rfl) (by kernel_rfl) (by kernel_rfl) h
  · have h : Lib.VarReads Tryz.prog W "math/bits.deBruijn64tab" (Lib.tabData .u8 [0, 1, 56, 2, 57, 49, 28, 3, 61, 58, 42, 50, 38, 29, 17, 4, 62, 47, 59, 36, 45, 43, 51, 22, 53, 39, 33, 30, 24, 18, 12, 5, 63, 55, 48, 27, 60, 41, 37, 16, 46, 35, 44, 21, 52, 32, 23, 11, 54, 26, 40, 15, 34, 20, 31, 10, 25, 14, 19, 9, 13, 8, 7, 6]) := Lib.laidMet.reads hL (.tail _ (.head _))
    exact (tab_of (g := 7) (t := 227) (e := 5) (n := 64) (by kernel_rfl) (by kernel_rfl) (by kernel_rfl) (by kernel_rfl) (by kernel_rfl) (by kernel_rfl) h).cell (by kernel_rfl) 15 (by decide)
  · exact iface_of (g := 4) (t := 64) (by kernel_rfl) (by kernel_rfl) Tryz.underlying64 (Lib.laidMet.reads hL (.tail _ (.tail _ (.tail _ (.tail _ (.tail _ (.head _)))))))
  · exact iface_of (g := 5) (t := 64) (by kernel_rfl) (by kernel_rfl) Tryz.underlying64 (Lib.laidMet.reads hL (.tail _ (.tail _ (.tail _ (.tail _ (.head _))))))
theorem own : ownKnob Tryz.prog.godebug = none := by kernel_rfl
end Go.Proofs.YtbiglifngfgffaaGreatDoor

/- Two policies that are alike (Same): the walks, where they are. -/
namespace Go.Proofs.YtbiglifngfgffaaGreatDoor
open Go.RowKit
attribute [local go_sem ↓] Go.wp_at_zero Go.wp_at_succ

set_option maxHeartbeats 8000000 in
set_option maxRecDepth 100000 in
theorem sameNm_any {w : World} (n : Nm) {v v' : Value} (h : RowR w v n.list.length 1 (strCells n.list)) (h' : RowR w v' n.list.length 1 (strCells n.list)) (hl : n.list.length ≤ 2000000) :
    Calls Tryz.prog 32 #[.agg #[.string n.name, v], .agg #[.string n.name, v']] w (Got (.bool true) w) := by
  obtain ⟨nm, ls⟩ := n
  simp only at h h' hl ⊢
  obtain ⟨A, cA, rfl⟩ := h.shape
  obtain ⟨B, cB, rfl⟩ := h'.shape
  obtain ⟨N, hN⟩ : ∃ n, n = ls.length := ⟨_, rfl⟩
  rw [← hN] at h h' hl ⊢
  have HA := Lib.hid h
  have HB := Lib.hid h'
  have HN := Lib.hid hN
  clear h h' hN
  go_enter Tryz.func32, Tryz.ntmps32
  go_upto_region 1 with fail
  have hP := (Blk.new w 46 #[.string nm, .slice A N cA]).alloc (.cells #[.string nm, .slice B N cB] 46)
  have hF := Blk.new (w.alloc (.cells #[.string nm, .slice A N cA] 46)) 46 #[.string nm, .slice B N cB]
  rw [show (w.alloc (.cells #[.string nm, .slice A N cA] 46)).heap.size = w.heap.size + 1 by simp] at hF
  have hD := after (boxed w (.cells #[.string nm, .slice A N cA] 46)) (boxed (w.alloc (.cells #[.string nm, .slice A N cA] 46)) (.cells #[.string nm, .slice B N cB] 46))
  have HP := Lib.hid hP
  have HF := Lib.hid hF
  have HD := Lib.hid hD
  clear hP hF hD
  generalize (w.alloc (.cells #[.string nm, .slice A N cA] 46)).alloc (.cells #[.string nm, .slice B N cB] 46) = w2 at HP HF HD ⊢
  obtain ⟨F, hF⟩ : ∃ F, F = w.heap.size + 1 := ⟨_, rfl⟩
  obtain ⟨P, hP⟩ : ∃ P, P = w.heap.size := ⟨_, rfl⟩
  rw [← hF] at HF ⊢
  rw [← hP] at HP ⊢
  clear hF hP
  have a0 := HP.out.cell 0
  have a1 := HP.out.cell 1
  have b0 := HF.out.cell 0
  have b1 := HF.out.cell 1
  simp at a0 a1 b0 b1
  go_wp2_with fail
  clear a0 a1 b0 b1
  go_loopw [5] (fun v5 wr => ∃ k : Nat, k ≤ N ∧ v5 = .int .i64 (k : Int) ∧ RowKit.Hid (Below w.heap.size w wr) ∧ RowKit.Hid (Blk wr P 46 #[.string nm, .slice A N cA]) ∧ RowKit.Hid (Blk wr F 46 #[.string nm, .slice B N cB])) (fun v5 _ => N - (intOf v5).toNat)
  case atStart => exact ⟨0, Nat.zero_le _, rfl, HD, HP, HF⟩
  case round =>
    clear HD HP HF
    obtain ⟨k, hk, rfl, HD, HP, HF⟩ := hrel
    have a1 := HP.out.cell 1
    have b1 := HF.out.cell 1
    simp at a1 b1
    by_cases hlt : k < N
    · have hkl : k < ls.length := by have := HN.out; omega
      obtain ⟨q, o, rfl, hc⟩ := HA.out.cell HD.out (by omega)
      obtain ⟨q', o', rfl, hc'⟩ := HB.out.cell HD.out (by omega)
      have hs := strCells_at (List.getElem?_eq_getElem hkl)
      have d := hc _ _ hs
      have d' := hc' _ _ hs
      generalize ls[k] = s at d d'
      clear hc hc' hs hkl
      go_upto_region 6 with fail
      go_quiet (fail)
      go_wp2_with fail
      go_roundw
      case rel => exact ⟨k + 1, by omega, by go_num, Lib.hid ⟨HD.out.os, HD.out.tape, HD.out.output, HD.out.size, HD.out.block⟩, Lib.hid (HP.out.drewN _), Lib.hid (HF.out.drewN _)⟩
      case measure => simp [intOf]; omega
    · obtain rfl : N = k := by omega
      go_wp2_with fail
      go_ret
      exact ⟨rfl, HD.out⟩
end Go.Proofs.YtbiglifngfgffaaGreatDoor

/- Two accepts that are alike (sameAcl): the walk, where they are. -/
namespace Go.Proofs.YtbiglifngfgffaaGreatDoor
open Go.RowKit
attribute [local go_sem ↓] Go.wp_at_zero Go.wp_at_succ

set_option maxHeartbeats 16000000 in
set_option maxRecDepth 100000 in
theorem sameAc_any {w : World} (a : Ac) (X Y : AcV) (hX : AcRdM w X) (hY : AcRdM w Y) (eX : X.a = a) (eY : Y.a = a) (hf : AcFit a) :
    Calls Tryz.prog 33 #[.agg #[X.p, X.s, X.d, X.o], .agg #[Y.p, Y.s, Y.d, Y.o]] w (Got (.bool true) w) := by
  obtain ⟨Ap, cp, ep⟩ := hX.p.shape
  obtain ⟨As, cs, es⟩ := hX.s.shape
  obtain ⟨Ad, cd, ed⟩ := hX.d.shape
  obtain ⟨Ao, co, eo⟩ := hX.o.shape
  obtain ⟨Bp, xp, fp⟩ := hY.p.shape
  obtain ⟨Bs, xs, fs⟩ := hY.s.shape
  obtain ⟨Bd, xd, fd⟩ := hY.d.shape
  obtain ⟨Bo, xo, fo⟩ := hY.o.shape
  have h1 := hX.p
  have h2 := hX.s
  have h3 := hX.d
  have h4 := hX.o
  have k1 := hY.p
  have k2 := hY.s
  have k3 := hY.d
  have k4 := hY.o
  rw [ep] at h1
  rw [es] at h2
  rw [ed] at h3
  rw [eo] at h4
  rw [fp] at k1
  rw [fs] at k2
  rw [fd] at k3
  rw [fo] at k4
  rw [ep, es, ed, eo, fp, fs, fd, fo]
  rw [eX] at h1 h2 h3 h4 ⊢
  rw [eY] at k1 k2 k3 k4 ⊢
  have l1 := hf.pl
  have l2 := hf.sl
  have l3 := hf.dl
  have l4 := hf.ol
  clear hX hY eX eY hf ep es ed eo fp fs fd fo X Y
  obtain ⟨ps, ss, ds, os⟩ := a
  simp only at h1 h2 h3 h4 k1 k2 k3 k4 l1 l2 l3 l4 ⊢
  obtain ⟨NP, hNP⟩ : ∃ n, n = ps.length := ⟨_, rfl⟩
  obtain ⟨NS, hNS⟩ : ∃ n, n = ss.length := ⟨_, rfl⟩
  obtain ⟨ND, hND⟩ : ∃ n, n = ds.length := ⟨_, rfl⟩
  obtain ⟨NO, hNO⟩ : ∃ n, n = os.length := ⟨_, rfl⟩
  rw [← hNP] at h1 k1 l1 ⊢
  rw [← hNS] at h2 k2 l2 ⊢
  rw [← hND] at h3 k3 l3 ⊢
  rw [← hNO] at h4 k4 l4 ⊢
  have H1 := Lib.hid h1
  have H2 := Lib.hid h2
  have H3 := Lib.hid h3
  have H4 := Lib.hid h4
  have K1 := Lib.hid k1
  have K2 := Lib.hid k2
  have K3 := Lib.hid k3
  have K4 := Lib.hid k4
  have HNP := Lib.hid hNP
  have HNS := Lib.hid hNS
  have HND := Lib.hid hND
  have HNO := Lib.hid hNO
  clear h1 h2 h3 h4 k1 k2 k3 k4 hNP hNS hND hNO
  go_enter Tryz.func33, Tryz.ntmps33
  go_upto_region 1 with fail
  have hP := (Blk.new w 57 #[.slice Ap NP cp, .slice As NS cs, .slice Ad ND cd, .slice Ao NO co]).alloc (.cells #[.slice Bp NP xp, .slice Bs NS xs, .slice Bd ND xd, .slice Bo NO xo] 57)
  have hF := Blk.new (w.alloc (.cells #[.slice Ap NP cp, .slice As NS cs, .slice Ad ND cd, .slice Ao NO co] 57)) 57 #[.slice Bp NP xp, .slice Bs NS xs, .slice Bd ND xd, .slice Bo NO xo]
  rw [show (w.alloc (.cells #[.slice Ap NP cp, .slice As NS cs, .slice Ad ND cd, .slice Ao NO co] 57)).heap.size = w.heap.size + 1 by simp] at hF
  have hD := after (boxed w (.cells #[.slice Ap NP cp, .slice As NS cs, .slice Ad ND cd, .slice Ao NO co] 57)) (boxed (w.alloc (.cells #[.slice Ap NP cp, .slice As NS cs, .slice Ad ND cd, .slice Ao NO co] 57)) (.cells #[.slice Bp NP xp, .slice Bs NS xs, .slice Bd ND xd, .slice Bo NO xo] 57))
  have HP := Lib.hid hP
  have HF := Lib.hid hF
  have HD := Lib.hid hD
  clear hP hF hD
  generalize (w.alloc (.cells #[.slice Ap NP cp, .slice As NS cs, .slice Ad ND cd, .slice Ao NO co] 57)).alloc (.cells #[.slice Bp NP xp, .slice Bs NS xs, .slice Bd ND xd, .slice Bo NO xo] 57) = w2 at HP HF HD ⊢
  obtain ⟨F, hF⟩ : ∃ F, F = w.heap.size + 1 := ⟨_, rfl⟩
  obtain ⟨P, hP⟩ : ∃ P, P = w.heap.size := ⟨_, rfl⟩
  rw [← hF] at HF ⊢
  rw [← hP] at HP ⊢
  clear hF hP
  have a0 := HP.out.cell 0
  have a1 := HP.out.cell 1
  have a2 := HP.out.cell 2
  have a3 := HP.out.cell 3
  have b0 := HF.out.cell 0
  have b1 := HF.out.cell 1
  have b2 := HF.out.cell 2
  have b3 := HF.out.cell 3
  simp at a0 a1 a2 a3 b0 b1 b2 b3
  go_wp2_with fail
  clear a0 a1 a2 a3 b0 b1 b2 b3
  go_loopw [5] (fun v wr => ∃ k : Nat, k ≤ NP ∧ v = .int .i64 (k : Int) ∧ RowKit.Hid (Below w.heap.size w wr) ∧ RowKit.Hid (Blk wr P 57 #[.slice Ap NP cp, .slice As NS cs, .slice Ad ND cd, .slice Ao NO co]) ∧ RowKit.Hid (Blk wr F 57 #[.slice Bp NP xp, .slice Bs NS xs, .slice Bd ND xd, .slice Bo NO xo])) (fun v _ => NP - (intOf v).toNat)
  case atStart => exact ⟨0, Nat.zero_le _, rfl, HD, HP, HF⟩
  case round =>
    clear HD HP HF
    obtain ⟨k, hk, rfl, HD, HP, HF⟩ := hrel
    have a1 := HP.out.cell 0
    have b1 := HF.out.cell 0
    simp at a1 b1
    by_cases hlt : k < NP
    case pos =>
      have hkl : k < ps.length := by have := HNP.out; omega
      obtain ⟨q, o, rfl, hc⟩ := H1.out.cell HD.out (by omega)
      obtain ⟨q', o', rfl, hc'⟩ := K1.out.cell HD.out (by omega)
      have hs := protoCells_at (List.getElem?_eq_getElem hkl)
      have d := hc _ _ hs
      have d' := hc' _ _ hs
      generalize ps[k] = s at d d'
      clear hc hc' hs hkl
      go_upto_region 6 with fail
      go_quiet (fail)
      go_wp2_with fail
      go_roundw
      case rel => exact ⟨k + 1, by omega, by go_num, Lib.hid ⟨HD.out.os, HD.out.tape, HD.out.output, HD.out.size, HD.out.block⟩, Lib.hid (HP.out.drewN _), Lib.hid (HF.out.drewN _)⟩
      case measure => simp [intOf]; omega
    obtain rfl : NP = k := by omega
    have a1 := HP.out.cell 1
    have b1 := HF.out.cell 1
    simp at a1 b1
    go_wp2_with fail
    clear a1 b1
    go_loopw [6] (fun v wr => ∃ k : Nat, k ≤ NS ∧ v = .int .i64 (k : Int) ∧ RowKit.Hid (Below w.heap.size w wr) ∧ RowKit.Hid (Blk wr P 57 #[.slice Ap NP cp, .slice As NS cs, .slice Ad ND cd, .slice Ao NO co]) ∧ RowKit.Hid (Blk wr F 57 #[.slice Bp NP xp, .slice Bs NS xs, .slice Bd ND xd, .slice Bo NO xo])) (fun v _ => NS - (intOf v).toNat)
    case atStart => exact ⟨0, Nat.zero_le _, rfl, HD, HP, HF⟩
    case round =>
      clear HD HP HF
      obtain ⟨k, hk, rfl, HD, HP, HF⟩ := hrel
      have a1 := HP.out.cell 1
      have b1 := HF.out.cell 1
      simp at a1 b1
      by_cases hlt : k < NS
      case pos =>
        have hkl : k < ss.length := by have := HNS.out; omega
        obtain ⟨q, o, rfl, hc⟩ := H2.out.cell HD.out (by omega)
        obtain ⟨q', o', rfl, hc'⟩ := K2.out.cell HD.out (by omega)
        obtain ⟨e0, e1, e2, e3, e4, e5⟩ := selCells_at ss k _ (List.getElem?_eq_getElem hkl)
        have d0 := hc _ _ e0
        have d1 := hc _ _ e1
        have d2 := hc _ _ e2
        have d3 := hc _ _ e3
        have d4 := hc _ _ e4
        have d5 := hc _ _ e5
        have f0 := hc' _ _ e0
        have f1 := hc' _ _ e1
        have f2 := hc' _ _ e2
        have f3 := hc' _ _ e3
        have f4 := hc' _ _ e4
        have f5 := hc' _ _ e5
        rw [← Nat.add_assoc] at d1 d2 d3 d4 d5 f1 f2 f3 f4 f5
        generalize ss[k] = Y at d0 d1 d2 d3 d4 d5 f0 f1 f2 f3 f4 f5
        obtain ⟨y1, y2, ⟨⟨y3, y4, y5⟩, y6⟩⟩ := Y
        simp only at d0 d1 d2 d3 d4 d5 f0 f1 f2 f3 f4 f5
        clear hc hc' hkl e0 e1 e2 e3 e4 e5
        go_upto_region 11 with fail
        go_quiet (fail)
        go_wp2_with fail
        go_roundw
        case rel => exact ⟨k + 1, by omega, by go_num, Lib.hid ⟨HD.out.os, HD.out.tape, HD.out.output, HD.out.size, HD.out.block⟩, Lib.hid (HP.out.drewN _), Lib.hid (HF.out.drewN _)⟩
        case measure => simp [intOf]; omega
      obtain rfl : NS = k := by omega
      have a1 := HP.out.cell 2
      have b1 := HF.out.cell 2
      simp at a1 b1
      go_wp2_with fail
      clear a1 b1
      go_loopw [7] (fun v wr => ∃ k : Nat, k ≤ ND ∧ v = .int .i64 (k : Int) ∧ RowKit.Hid (Below w.heap.size w wr) ∧ RowKit.Hid (Blk wr P 57 #[.slice Ap NP cp, .slice As NS cs, .slice Ad ND cd, .slice Ao NO co]) ∧ RowKit.Hid (Blk wr F 57 #[.slice Bp NP xp, .slice Bs NS xs, .slice Bd ND xd, .slice Bo NO xo])) (fun v _ => ND - (intOf v).toNat)
      case atStart => exact ⟨0, Nat.zero_le _, rfl, HD, HP, HF⟩
      case round =>
        clear HD HP HF
        obtain ⟨k, hk, rfl, HD, HP, HF⟩ := hrel
        have a1 := HP.out.cell 2
        have b1 := HF.out.cell 2
        simp at a1 b1
        by_cases hlt : k < ND
        case pos =>
          have hkl : k < ds.length := by have := HND.out; omega
          obtain ⟨q, o, rfl, hc⟩ := H3.out.cell HD.out (by omega)
          obtain ⟨q', o', rfl, hc'⟩ := K3.out.cell HD.out (by omega)
          obtain ⟨e0, e1, e2, e3, e4, e5⟩ := selCells_at ds k _ (List.getElem?_eq_getElem hkl)
          have d0 := hc _ _ e0
          have d1 := hc _ _ e1
          have d2 := hc _ _ e2
          have d3 := hc _ _ e3
          have d4 := hc _ _ e4
          have d5 := hc _ _ e5
          have f0 := hc' _ _ e0
          have f1 := hc' _ _ e1
          have f2 := hc' _ _ e2
          have f3 := hc' _ _ e3
          have f4 := hc' _ _ e4
          have f5 := hc' _ _ e5
          rw [← Nat.add_assoc] at d1 d2 d3 d4 d5 f1 f2 f3 f4 f5
          generalize ds[k] = Y at d0 d1 d2 d3 d4 d5 f0 f1 f2 f3 f4 f5
          obtain ⟨y1, y2, ⟨⟨y3, y4, y5⟩, y6⟩⟩ := Y
          simp only at d0 d1 d2 d3 d4 d5 f0 f1 f2 f3 f4 f5
          clear hc hc' hkl e0 e1 e2 e3 e4 e5
          go_upto_region 16 with fail
          go_quiet (fail)
          go_wp2_with fail
          go_roundw
          case rel => exact ⟨k + 1, by omega, by go_num, Lib.hid ⟨HD.out.os, HD.out.tape, HD.out.output, HD.out.size, HD.out.block⟩, Lib.hid (HP.out.drewN _), Lib.hid (HF.out.drewN _)⟩
          case measure => simp [intOf]; omega
        obtain rfl : ND = k := by omega
        have a1 := HP.out.cell 3
        have b1 := HF.out.cell 3
        simp at a1 b1
        go_wp2_with fail
        clear a1 b1
        go_loopw [8] (fun v wr => ∃ k : Nat, k ≤ NO ∧ v = .int .i64 (k : Int) ∧ RowKit.Hid (Below w.heap.size w wr) ∧ RowKit.Hid (Blk wr P 57 #[.slice Ap NP cp, .slice As NS cs, .slice Ad ND cd, .slice Ao NO co]) ∧ RowKit.Hid (Blk wr F 57 #[.slice Bp NP xp, .slice Bs NS xs, .slice Bd ND xd, .slice Bo NO xo])) (fun v _ => NO - (intOf v).toNat)
        case atStart => exact ⟨0, Nat.zero_le _, rfl, HD, HP, HF⟩
        case round =>
          clear HD HP HF
          obtain ⟨k, hk, rfl, HD, HP, HF⟩ := hrel
          have a1 := HP.out.cell 3
          have b1 := HF.out.cell 3
          simp at a1 b1
          by_cases hlt : k < NO
          case pos =>
            have hkl : k < os.length := by have := HNO.out; omega
            obtain ⟨q, o, rfl, hc⟩ := H4.out.cell HD.out (by omega)
            obtain ⟨q', o', rfl, hc'⟩ := K4.out.cell HD.out (by omega)
            obtain ⟨e0, e1⟩ := portCells_at os k _ (List.getElem?_eq_getElem hkl)
            have d0 := hc _ _ e0
            have d1 := hc _ _ e1
            have f0 := hc' _ _ e0
            have f1 := hc' _ _ e1
            rw [← Nat.add_assoc] at d1 f1
            generalize os[k] = Y at d0 d1 f0 f1
            obtain ⟨y1, y2⟩ := Y
            simp only at d0 d1 f0 f1
            clear hc hc' hkl e0 e1
            go_upto_region 21 with fail
            go_quiet (fail)
            go_wp2_with fail
            go_roundw
            case rel => exact ⟨k + 1, by omega, by go_num, Lib.hid ⟨HD.out.os, HD.out.tape, HD.out.output, HD.out.size, HD.out.block⟩, Lib.hid (HP.out.drewN _), Lib.hid (HF.out.drewN _)⟩
            case measure => simp [intOf]; omega
          obtain rfl : NO = k := by omega
          go_wp2_with fail
          go_ret
          exact ⟨rfl, HD.out⟩
end Go.Proofs.YtbiglifngfgffaaGreatDoor
