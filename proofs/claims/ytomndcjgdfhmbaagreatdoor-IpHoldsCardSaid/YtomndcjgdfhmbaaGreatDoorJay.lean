/- Joined out of: LwE. -/
import Derived.Test.YtomndcjgdfhmbaaGreatDoorJas
import Derived.Test.YtomndcjgdfhmbaaGreatDoorJax
import Derived.BigRegion
import Derived.Deep.DeepCutAuto
set_option linter.unusedVariables false
set_option linter.unusedSimpArgs false

/- IpHolds: the walk, four. (Printed by lw_holds.py.) -/
namespace Go.Proofs.YtomndcjgdfhmbaaGreatDoor
open Go.RowKit
attribute [local go_sem ↓] Go.wp_at_zero Go.wp_at_succ

theorem text_emp (a : Ad) : (textB a).toList.isEmpty = !a.may := by
  rw [ByteArray.toList_eq]
  cases h : a.may with
  | false => unfold textB; rw [textL_nil h]; rfl
  | true =>
    unfold textB
    cases e : textL a with
    | nil => exact absurd e (textL_ne h)
    | cons _ _ => rfl

def F9 (a1 a2 c1 c2 c3 : Array Value) (m n z : Nat) (i : Nat) (a : Act) (w : World) : Prop := match i with
  | 0 => a.tmps.getD 44 undef = .agg a1
  | 1 => a.tmps.getD 45 undef = .int .u8 (m : Int)
  | 2 => a.tmps.getD 46 undef = .int .u8 (z : Int)
  | 3 => a.tmps.getD 47 undef = .agg c1
  | 4 => a.tmps.getD 48 undef = .agg a1
  | 5 => a.tmps.getD 49 undef = .int .u8 (n : Int)
  | 6 => a.tmps.getD 50 undef = .int .u8 (z : Int)
  | 7 => a.tmps.getD 51 undef = .agg c2
  | 8 => a.tmps.getD 52 undef = .agg a2
  | 9 => a.tmps.getD 53 undef = .int .u8 (n : Int)
  | 10 => a.tmps.getD 54 undef = .int .u8 (z : Int)
  | 11 => a.tmps.getD 55 undef = .agg c3
  | 12 => ∃ (p : Nat) (cs : Array Value), a.tmps.getD 10 undef = .pointer (some ⟨p, 0, none⟩) ∧ Blk w p 39 cs ∧ cs.size = 4
  | 13 => ∃ (p : Nat) (cs : Array Value), a.tmps.getD 11 undef = .pointer (some ⟨p, 0, none⟩) ∧ Blk w p 39 cs ∧ cs.size = 4
  | 14 => ∃ (p : Nat) (cs : Array Value), a.tmps.getD 12 undef = .pointer (some ⟨p, 0, none⟩) ∧ Blk w p 39 cs ∧ cs.size = 4
  | 15 => ∃ p : Nat, a.tmps.getD 10 undef = .pointer (some ⟨p, 0, none⟩) ∧ Blk w p 39 c1
  | 16 => ∃ p : Nat, a.tmps.getD 11 undef = .pointer (some ⟨p, 0, none⟩) ∧ Blk w p 39 c2
  | 17 => ∃ p : Nat, a.tmps.getD 12 undef = .pointer (some ⟨p, 0, none⟩) ∧ Blk w p 39 c3
  | _ => True

def S14 (v : Bool) (ga gb q r ah al bh bl q2 q3 r2 r3 n : Nat) (w : World) : Prop :=
  w.cell? ⟨ga, 0, none⟩ = some (.bool v) ∧ w.cell? ⟨ga, 1, none⟩ = some (.int .u64 (ah : Int)) ∧ w.cell? ⟨ga, 2, none⟩ = some (.int .u64 (al : Int)) ∧
  w.cell? ⟨gb, 0, none⟩ = some (.bool v) ∧ w.cell? ⟨gb, 1, none⟩ = some (.int .u64 (bh : Int)) ∧ w.cell? ⟨gb, 2, none⟩ = some (.int .u64 (bl : Int)) ∧
  w.cell? ⟨q, 0, none⟩ = some (.bool v) ∧ w.cell? ⟨q, 1, none⟩ = some (.int .u64 (q2 : Int)) ∧ w.cell? ⟨q, 2, none⟩ = some (.int .u64 (q3 : Int)) ∧ w.cell? ⟨q, 3, none⟩ = some (.int .u8 (n : Int)) ∧
  w.cell? ⟨r, 0, none⟩ = some (.bool v) ∧ w.cell? ⟨r, 1, none⟩ = some (.int .u64 (r2 : Int)) ∧ w.cell? ⟨r, 2, none⟩ = some (.int .u64 (r3 : Int)) ∧ w.cell? ⟨r, 3, none⟩ = some (.int .u8 (n : Int))
structure K14 (W : World) (v : Bool) (ga gb q r ah al bh bl q2 q3 r2 r3 n : Nat) (w : World) : Prop where
  bel : Below W.heap.size W w
  a : Blk w ga 24 #[.bool v, .int .u64 (ah : Int), .int .u64 (al : Int)]
  b : Blk w gb 24 #[.bool v, .int .u64 (bh : Int), .int .u64 (bl : Int)]
  q : Blk w q 39 #[.bool v, .int .u64 (q2 : Int), .int .u64 (q3 : Int), .int .u8 (n : Int)]
  r : Blk w r 39 #[.bool v, .int .u64 (r2 : Int), .int .u64 (r3 : Int), .int .u8 (n : Int)]
theorem K14.step {W : World} {v : Bool} {ga gb q r ah al bh bl q2 q3 r2 r3 n : Nat} {w w' : World} (h : K14 W v ga gb q r ah al bh bl q2 q3 r2 r3 n w) (g : Below w.heap.size w w') : K14 W v ga gb q r ah al bh bl q2 q3 r2 r3 n w' :=
  ⟨after h.bel g, h.a.below g h.a.lt, h.b.below g h.b.lt, h.q.below g h.q.lt, h.r.below g h.r.lt⟩
theorem K14.S {W : World} {v : Bool} {ga gb q r ah al bh bl q2 q3 r2 r3 n : Nat} {w : World} (h : K14 W v ga gb q r ah al bh bl q2 q3 r2 r3 n w) : S14 v ga gb q r ah al bh bl q2 q3 r2 r3 n w :=
  ⟨h.a.cell 0, h.a.cell 1, h.a.cell 2, h.b.cell 0, h.b.cell 1, h.b.cell 2, h.q.cell 0, h.q.cell 1, h.q.cell 2, h.q.cell 3, h.r.cell 0, h.r.cell 1, h.r.cell 2, h.r.cell 3⟩
def slot9 (j : Nat) : Nat := match j with
  | 0 => 44
  | 1 => 45
  | 2 => 46
  | 3 => 47
  | 4 => 48
  | 5 => 49
  | 6 => 50
  | 7 => 51
  | 8 => 52
  | 9 => 53
  | 10 => 54
  | 11 => 55
  | 12 => 10
  | 13 => 11
  | 14 => 12
  | 15 => 10
  | 16 => 11
  | 17 => 12
  | _ => 999
theorem getD_conf {l : Array Bool} {i : Nat} (h1 : l.getD i true = false) (h2 : l.getD i false = true) : False := by
  rw [Array.getD_eq_getD_getElem?] at h1 h2
  cases e : l[i]? with
  | none => rw [e] at h1; cases h1
  | some b => rw [e] at h1 h2; exact absurd (h1.symm.trans h2) (by decide)
theorem four_of {cs : Array Value} (h : cs.size = 4) : ∃ z0 z1 z2 z3, cs = #[z0, z1, z2, z3] := by
  obtain ⟨l⟩ := cs
  match l, h with
  | [z0, z1, z2, z3], _ => exact ⟨z0, z1, z2, z3, rfl⟩
theorem F9_keep {a1 a2 c1 c2 c3 : Array Value} {m n z j : Nat} {a a' : Act} {w w' : World} (h : F9 a1 a2 c1 c2 c3 m n z j a w) (hs : a'.tmps.getD (slot9 j) undef = a.tmps.getD (slot9 j) undef) (hw : Below w.heap.size w w') : F9 a1 a2 c1 c2 c3 m n z j a' w' := by
  unfold F9 at h ⊢
  split
  · exact Eq.trans hs h
  · exact Eq.trans hs h
  · exact Eq.trans hs h
  · exact Eq.trans hs h
  · exact Eq.trans hs h
  · exact Eq.trans hs h
  · exact Eq.trans hs h
  · exact Eq.trans hs h
  · exact Eq.trans hs h
  · exact Eq.trans hs h
  · exact Eq.trans hs h
  · exact Eq.trans hs h
  · obtain ⟨p, cs, h1, h2, h3⟩ := h; exact ⟨p, cs, Eq.trans hs h1, h2.below hw h2.lt, h3⟩
  · obtain ⟨p, cs, h1, h2, h3⟩ := h; exact ⟨p, cs, Eq.trans hs h1, h2.below hw h2.lt, h3⟩
  · obtain ⟨p, cs, h1, h2, h3⟩ := h; exact ⟨p, cs, Eq.trans hs h1, h2.below hw h2.lt, h3⟩
  · obtain ⟨p, h1, h2⟩ := h; exact ⟨p, Eq.trans hs h1, h2.below hw h2.lt⟩
  · obtain ⟨p, h1, h2⟩ := h; exact ⟨p, Eq.trans hs h1, h2.below hw h2.lt⟩
  · obtain ⟨p, h1, h2⟩ := h; exact ⟨p, Eq.trans hs h1, h2.below hw h2.lt⟩
  · trivial
theorem F9_store {u0 u1 u2 u3 : Value} {a1 a2 c1 c2 c3 : Array Value} {m n z j d g B : Nat} {a : Act} {w w' : World} {cs : Array Value} (h : F9 a1 a2 c1 c2 c3 m n z j a w) (hd : a.tmps.getD d undef = .pointer (some ⟨g, 0, none⟩)) (hg : Blk w g 39 cs) (hg' : Blk w' g 39 #[u0, u1, u2, u3])
    (hf : ∀ (h : Nat) (t : TypeId) (c : Array Value), h ≠ g → Blk w h t c → Blk w' h t c) (hfr : Fresh B [10, 11, 12] a w) (hd3 : d ∈ [10, 11, 12]) (hj : j ≠ d + 5) : F9 a1 a2 c1 c2 c3 m n z j a w' := by
  have ok : ∀ s ∈ [10, 11, 12], s ≠ d → ∀ p, a.tmps.getD s undef = .pointer (some ⟨p, 0, none⟩) → p ≠ g := fun s hs hne p hp => hfr.apart s hs d hd3 hne _ _ hp hd
  have any : ∀ (p : Nat) (c : Array Value), Blk w p 39 c ∧ c.size = 4 → ∃ c', Blk w' p 39 c' ∧ c'.size = 4 := by
    rintro p c ⟨h1, h2⟩
    by_cases e : p = g
    · subst e; exact ⟨_, hg', rfl⟩
    · exact ⟨c, hf p _ c e h1, h2⟩
  have three : d = 10 ∨ d = 11 ∨ d = 12 := by simpa using hd3
  unfold F9 at h ⊢
  split
  · exact h
  · exact h
  · exact h
  · exact h
  · exact h
  · exact h
  · exact h
  · exact h
  · exact h
  · exact h
  · exact h
  · exact h
  · obtain ⟨p, c, h1, h2⟩ := h; obtain ⟨c', h3⟩ := any p c h2; exact ⟨p, c', h1, h3⟩
  · obtain ⟨p, c, h1, h2⟩ := h; obtain ⟨c', h3⟩ := any p c h2; exact ⟨p, c', h1, h3⟩
  · obtain ⟨p, c, h1, h2⟩ := h; obtain ⟨c', h3⟩ := any p c h2; exact ⟨p, c', h1, h3⟩
  · obtain ⟨p, h1, h2⟩ := h; exact ⟨p, h1, hf p _ _ (ok 10 (by simp) (by omega) p h1) h2⟩
  · obtain ⟨p, h1, h2⟩ := h; exact ⟨p, h1, hf p _ _ (ok 11 (by simp) (by omega) p h1) h2⟩
  · obtain ⟨p, h1, h2⟩ := h; exact ⟨p, h1, hf p _ _ (ok 12 (by simp) (by omega) p h1) h2⟩
  · trivial

set_option maxHeartbeats 16000000 in
set_option maxRecDepth 100000 in
theorem holds_four {w : World} (env : Env w) (ah al bh bl : Nat) (oka : (Ad.mk false ah al).Ok) (okb : (Ad.mk false bh bl).Ok) (hma : (Ad.mk false ah al).may = true) (hmb : (Ad.mk false bh bl).may = true) (n m : Nat) (hn : n < 256) (hm : m < 256) : Calls Tryz.prog 8 #[.agg #[.bool false, .int .u64 (ah : Int), .int .u64 (al : Int)], .agg #[.bool false, .int .u64 (bh : Int), .int .u64 (bl : Int)], .int .u8 (n : Int), .int .u8 (m : Int)] w (Got (.bool true) w) := by
  have HWK := Lib.hid fun v (hv : Below w.heap.size w v) => works_any (env.below hv)
  have htx := fun u (hv : Below w.heap.size w u) => text_any (env.below hv) ⟨false, ah, al⟩ oka
  have hty := fun u (hv : Below w.heap.size w u) => text_any (env.below hv) ⟨false, bh, bl⟩ okb
  have e1 := text_emp ⟨false, ah, al⟩
  have e2 := text_emp ⟨false, bh, bl⟩
  rw [hma] at e1
  rw [hmb] at e2
  unfold Ad.cells at htx hty
  simp only at htx hty
  generalize textB ⟨false, ah, al⟩ = TXA at htx e1
  generalize textB ⟨false, bh, bl⟩ = TXB at hty e2
  have HTX := Lib.hid htx
  have HTY := Lib.hid hty
  clear htx hty env
  simp only [Bool.not_true] at e1 e2
  have ha := (Blk.new w 24 #[.bool false, .int .u64 (ah : Int), .int .u64 (al : Int)]).alloc (.cells #[.bool false, .int .u64 (bh : Int), .int .u64 (bl : Int)] 24)
  have hb : Blk ((w.alloc (.cells #[.bool false, .int .u64 (ah : Int), .int .u64 (al : Int)] 24)).alloc (.cells #[.bool false, .int .u64 (bh : Int), .int .u64 (bl : Int)] 24)) (w.heap.size + 1) 24 #[.bool false, .int .u64 (bh : Int), .int .u64 (bl : Int)] := by
    have h := Blk.new (w.alloc (.cells #[.bool false, .int .u64 (ah : Int), .int .u64 (al : Int)] 24)) 24 #[.bool false, .int .u64 (bh : Int), .int .u64 (bl : Int)]
    simpa using h
  have hv := two_boxed w (.cells #[.bool false, .int .u64 (ah : Int), .int .u64 (al : Int)] 24) (.cells #[.bool false, .int .u64 (bh : Int), .int .u64 (bl : Int)] 24)
  go_enter Tryz.func8, Tryz.ntmps8
  go_upto_region 1 with fail
  generalize (w.alloc (.cells #[.bool false, .int .u64 (ah : Int), .int .u64 (al : Int)] 24)).alloc (.cells #[.bool false, .int .u64 (bh : Int), .int .u64 (bl : Int)] 24) = w0 at ha hb hv ⊢
  have a0 := ha.cell 0; have a1 := ha.cell 1; have a2 := ha.cell 2; simp at a0 a1 a2
  have b0 := hb.cell 0; have b1 := hb.cell 1; have b2 := hb.cell 2; simp at b0 b1 b2
  go_upto_region 3 with (first
    | (go_at_call 19; (with_reducible refine (HTX.out _ hv).mono ?_); rintro r w1 ⟨rfl, d1⟩; have hv1 := after hv d1; have ha1 := ha.below d1 ha.lt; have hb1 := hb.below d1 hb.lt; clear hv ha hb a0 a1 a2 b0 b1 b2 d1; have a0 := ha1.cell 0; have a1 := ha1.cell 1; have a2 := ha1.cell 2; simp at a0 a1 a2; have b0 := hb1.cell 0; have b1 := hb1.cell 1; have b2 := hb1.cell 2; simp at b0 b1 b2)
    | (go_at_call 19; (with_reducible refine (HTY.out _ hv1).mono ?_); rintro r w2 ⟨rfl, d2⟩; have hv2 := after hv1 d2; have ha2 := ha1.below d2 ha1.lt; have hb2 := hb1.below d2 hb1.lt; clear hv1 ha1 hb1 a0 a1 a2 b0 b1 b2 d2; have a0 := ha2.cell 0; have a1 := ha2.cell 1; have a2 := ha2.cell 2; simp at a0 a1 a2; have b0 := hb2.cell 0; have b1 := hb2.cell 1; have b2 := hb2.cell 2; simp at b0 b1 b2))
  go_upto_region 6 with fail
  go_region
  obtain ⟨N, hN, hN2⟩ : ∃ N : Nat, (n : Int) % 33 = (N : Int) ∧ N ≤ 32 := ⟨n % 33, by omega, by omega⟩
  obtain ⟨M, hM, hM2⟩ : ∃ M : Nat, (m : Int) % 33 = (M : Int) ∧ M ≤ 32 := ⟨m % 33, by omega, by omega⟩
  rw [hN, hM]
  clear hN hM
  have ha3 := ha2.drew
  have hb3 := hb2.drew
  have hv3 := hv2.drew
  clear ha2 hb2 hv2 a0 a1 a2 b0 b1 b2
  generalize w2.drew = w3 at ha3 hb3 hv3 ⊢
  have a0 := ha3.cell 0; have a1 := ha3.cell 1; have a2 := ha3.cell 2; simp at a0 a1 a2
  have b0 := hb3.cell 0; have b1 := hb3.cell 1; have b2 := hb3.cell 2; simp at b0 b1 b2
  go_upto_if 41 with fail
  go_cut [2, 3] (fun s2 s3 wx => ∃ MM NN : Nat, MM ≤ NN ∧ NN ≤ 32 ∧ s2 = .int .u8 (MM : Int) ∧ s3 = .int .u8 (NN : Int) ∧ wx = w3)
  case first =>
    go_wp2_with fail
    all_goals go_meet
    · rename_i h
      exact ⟨M, N, by omega, hN2, rfl, rfl, rfl⟩
    · rename_i h
      exact ⟨N, M, by omega, hM2, rfl, rfl, rfl⟩
  case rest =>
  obtain ⟨MM, NN, hMN, hNN, rfl, rfl, hwx⟩ := hcut
  have hwx := hwx.symm
  subst hwx
  clear hN2 hM2 N M
  have c1 : ∀ u, Calls Tryz.prog 32 #[.agg #[.bool false, .int .u64 (ah : Int), .int .u64 (al : Int)], .int .u8 (MM : Int), .int .u8 32] u (Got (.agg (Pf.cells ⟨cutA ⟨false, ah, al⟩ MM, MM⟩)) u) := fun u => cut_any ⟨false, ah, al⟩ MM oka (show MM ≤ 32 by omega) u
  have c2 : ∀ u, Calls Tryz.prog 32 #[.agg #[.bool false, .int .u64 (ah : Int), .int .u64 (al : Int)], .int .u8 (NN : Int), .int .u8 32] u (Got (.agg (Pf.cells ⟨cutA ⟨false, ah, al⟩ NN, NN⟩)) u) := fun u => cut_any ⟨false, ah, al⟩ NN oka hNN u
  have c3 : ∀ u, Calls Tryz.prog 32 #[.agg #[.bool false, .int .u64 (bh : Int), .int .u64 (bl : Int)], .int .u8 (NN : Int), .int .u8 32] u (Got (.agg (Pf.cells ⟨cutA ⟨false, bh, bl⟩ NN, NN⟩)) u) := fun u => cut_any ⟨false, bh, bl⟩ NN okb hNN u
  obtain ⟨P1, hP1⟩ : ∃ P, P = cutA ⟨false, ah, al⟩ MM := ⟨_, rfl⟩
  obtain ⟨P2, hP2⟩ : ∃ P, P = cutA ⟨false, ah, al⟩ NN := ⟨_, rfl⟩
  obtain ⟨P3, hP3⟩ : ∃ P, P = cutA ⟨false, bh, bl⟩ NN := ⟨_, rfl⟩
  rw [← hP1] at c1
  rw [← hP2] at c2
  rw [← hP3] at c3
  obtain ⟨p1, p2, p3⟩ := P1
  obtain ⟨q1, q2, q3⟩ := P2
  obtain ⟨r1, r2, r3⟩ := P3
  have p1e : p1 = false := (congrArg Ad.v6 hP1).trans (cut_v6 _ _)
  have q1e : q1 = false := (congrArg Ad.v6 hP2).trans (cut_v6 _ _)
  have r1e : r1 = false := (congrArg Ad.v6 hP3).trans (cut_v6 _ _)
  subst p1e q1e r1e
  unfold Pf.cells at c1 c2 c3
  simp only at c1 c2 c3
  have HC1 := Lib.hid c1
  have HC2 := Lib.hid c2
  have HC3 := Lib.hid c3
  have HP1 := Lib.hid hP1
  have HP2 := Lib.hid hP2
  have HP3 := Lib.hid hP3
  clear c1 c2 c3 hP1 hP2 hP3
  go_upto_region 9 with fail
  go_cut [10, 11, 12] (fun s10 s11 s12 wx => ∃ p q r : Nat, s10 = .pointer (some ⟨p, 0, none⟩) ∧ s11 = .pointer (some ⟨q, 0, none⟩) ∧ s12 = .pointer (some ⟨r, 0, none⟩) ∧ Below w3.heap.size w3 wx ∧ Blk wx p 39 #[.bool false, .int .u64 (p2 : Int), .int .u64 (p3 : Int), .int .u8 (MM : Int)] ∧ Blk wx q 39 #[.bool false, .int .u64 (q2 : Int), .int .u64 (q3 : Int), .int .u8 (NN : Int)] ∧ Blk wx r 39 #[.bool false, .int .u64 (r2 : Int), .int .u64 (r3 : Int), .int .u8 (NN : Int)])
  case first =>
    refine wp_region_free (by rfl) [10, 11, 12, 44, 45, 46, 47, 48, 49, 50, 51, 52, 53, 54, 55] (F9 #[.bool false, .int .u64 (ah : Int), .int .u64 (al : Int)] #[.bool false, .int .u64 (bh : Int), .int .u64 (bl : Int)] #[.bool false, .int .u64 (p2 : Int), .int .u64 (p3 : Int), .int .u8 (MM : Int)] #[.bool false, .int .u64 (q2 : Int), .int .u64 (q3 : Int), .int .u8 (NN : Int)] #[.bool false, .int .u64 (r2 : Int), .int .u64 (r3 : Int), .int .u8 (NN : Int)] MM NN 32) (fun a u => Below w3.heap.size w3 u ∧ Fresh w3.heap.size [10, 11, 12] a u) (by kernel_rfl) ?hJ ?hstep ?hend
    case hJ =>
      refine ⟨(Below.refl _ _).drew, ⟨?_, ?_⟩⟩
      · intro x hx p hp
        simp at hx
        rcases hx with rfl | rfl | rfl <;> cases (show undef = Value.pointer (some p) from hp)
      · intro x hx y hy hne p q hp
        simp at hx
        rcases hx with rfl | rfl | rfl <;> cases (show undef = Value.pointer (some p) from hp)
    case hstep =>
      intro i o l a u ho hun hcl hoff hJ hdep
      have hlt : i < 18 := (Array.getElem?_eq_some_iff.1 ho).1
      by_cases h0 : i = 0
      · subst h0
        obtain rfl := Option.some.inj ho
        have ne : ∀ j, l.getD j false = true → slot9 j ≠ 44 := by
          intro j hj e
          unfold slot9 at e
          split at e <;> first | exact absurd e (by decide) | exact getD_conf hun hj
        have hsz : 44 < a.tmps.size := by rw [hoff.size]; exact (show 44 < 116 by decide)
        have h4 : a.tmps.getD 4 undef = .pointer (some ⟨w.heap.size, 0, none⟩) := (hoff.get (by decide)).trans rfl
        have hau := ha3.below hJ.1 ha3.lt
        have x0 := hau.cell 0
        have x1 := hau.cell 1
        have x2 := hau.cell 2
        simp at x0 x1 x2
        refine wpOp_step rfl (fun K' hK => ?_)
        go_simp
        exact hK _ _ ⟨hoff.put (by decide) _, ⟨hJ.1, hJ.2.off (Nat.le_refl _) (by decide) _⟩, put_self _ hsz, fun j hj hF => F9_keep hF (put_other _ (Ne.symm (ne j hj))) (Below.refl _ _)⟩
      by_cases h1 : i = 1
      · subst h1
        obtain rfl := Option.some.inj ho
        have ne : ∀ j, l.getD j false = true → slot9 j ≠ 45 := by
          intro j hj e
          unfold slot9 at e
          split at e <;> first | exact absurd e (by decide) | exact getD_conf hun hj
        have hsz : 45 < a.tmps.size := by rw [hoff.size]; exact (show 45 < 116 by decide)
        have h4 : a.tmps.getD 2 undef = .int .u8 (MM : Int) := (hoff.get (by decide)).trans rfl
        refine wpOp_step rfl (fun K' hK => ?_)
        go_simp
        exact hK _ _ ⟨hoff.put (by decide) _, ⟨hJ.1, hJ.2.off (Nat.le_refl _) (by decide) _⟩, put_self _ hsz, fun j hj hF => F9_keep hF (put_other _ (Ne.symm (ne j hj))) (Below.refl _ _)⟩
      by_cases h2 : i = 2
      · subst h2
        obtain rfl := Option.some.inj ho
        have ne : ∀ j, l.getD j false = true → slot9 j ≠ 46 := by
          intro j hj e
          unfold slot9 at e
          split at e <;> first | exact absurd e (by decide) | exact getD_conf hun hj
        have hsz : 46 < a.tmps.size := by rw [hoff.size]; exact (show 46 < 116 by decide)
        have h4 : a.tmps.getD 9 undef = .int .u8 32 := (hoff.get (by decide)).trans rfl
        refine wpOp_step rfl (fun K' hK => ?_)
        go_simp
        exact hK _ _ ⟨hoff.put (by decide) _, ⟨hJ.1, hJ.2.off (Nat.le_refl _) (by decide) _⟩, put_self _ hsz, fun j hj hF => F9_keep hF (put_other _ (Ne.symm (ne j hj))) (Below.refl _ _)⟩
      by_cases h3 : i = 3
      · subst h3
        obtain rfl := Option.some.inj ho
        have ne : ∀ j, l.getD j false = true → slot9 j ≠ 47 := by
          intro j hj e
          unfold slot9 at e
          split at e <;> first | exact absurd e (by decide) | exact getD_conf hun hj
        have hsz : 47 < a.tmps.size := by rw [hoff.size]; exact (show 47 < 116 by decide)
        have x0 : a.tmps.getD 44 undef = .agg #[.bool false, .int .u64 (ah : Int), .int .u64 (al : Int)] := hdep ⟨0, .data⟩ (by simp) rfl
        have x1 : a.tmps.getD 45 undef = .int .u8 (MM : Int) := hdep ⟨1, .data⟩ (by simp) rfl
        have x2 : a.tmps.getD 46 undef = .int .u8 32 := hdep ⟨2, .data⟩ (by simp) rfl
        refine wpOp_step rfl (fun K' hK => ?_)
        go_simp
        refine (HC1.out _).mono ?_
        rintro r u' ⟨rfl, du⟩
        go_simp
        exact hK _ _ ⟨hoff.put (by decide) _, ⟨after hJ.1 du, hJ.2.off du.size (by decide) _⟩, put_self _ hsz, fun j hj hF => F9_keep hF (put_other _ (Ne.symm (ne j hj))) du⟩
      by_cases h4 : i = 4
      · subst h4
        obtain rfl := Option.some.inj ho
        have ne : ∀ j, l.getD j false = true → slot9 j ≠ 48 := by
          intro j hj e
          unfold slot9 at e
          split at e <;> first | exact absurd e (by decide) | exact getD_conf hun hj
        have hsz : 48 < a.tmps.size := by rw [hoff.size]; exact (show 48 < 116 by decide)
        have h4 : a.tmps.getD 4 undef = .pointer (some ⟨w.heap.size, 0, none⟩) := (hoff.get (by decide)).trans rfl
        have hau := ha3.below hJ.1 ha3.lt
        have x0 := hau.cell 0
        have x1 := hau.cell 1
        have x2 := hau.cell 2
        simp at x0 x1 x2
        refine wpOp_step rfl (fun K' hK => ?_)
        go_simp
        exact hK _ _ ⟨hoff.put (by decide) _, ⟨hJ.1, hJ.2.off (Nat.le_refl _) (by decide) _⟩, put_self _ hsz, fun j hj hF => F9_keep hF (put_other _ (Ne.symm (ne j hj))) (Below.refl _ _)⟩
      by_cases h5 : i = 5
      · subst h5
        obtain rfl := Option.some.inj ho
        have ne : ∀ j, l.getD j false = true → slot9 j ≠ 49 := by
          intro j hj e
          unfold slot9 at e
          split at e <;> first | exact absurd e (by decide) | exact getD_conf hun hj
        have hsz : 49 < a.tmps.size := by rw [hoff.size]; exact (show 49 < 116 by decide)
        have h4 : a.tmps.getD 3 undef = .int .u8 (NN : Int) := (hoff.get (by decide)).trans rfl
        refine wpOp_step rfl (fun K' hK => ?_)
        go_simp
        exact hK _ _ ⟨hoff.put (by decide) _, ⟨hJ.1, hJ.2.off (Nat.le_refl _) (by decide) _⟩, put_self _ hsz, fun j hj hF => F9_keep hF (put_other _ (Ne.symm (ne j hj))) (Below.refl _ _)⟩
      by_cases h6 : i = 6
      · subst h6
        obtain rfl := Option.some.inj ho
        have ne : ∀ j, l.getD j false = true → slot9 j ≠ 50 := by
          intro j hj e
          unfold slot9 at e
          split at e <;> first | exact absurd e (by decide) | exact getD_conf hun hj
        have hsz : 50 < a.tmps.size := by rw [hoff.size]; exact (show 50 < 116 by decide)
        have h4 : a.tmps.getD 9 undef = .int .u8 32 := (hoff.get (by decide)).trans rfl
        refine wpOp_step rfl (fun K' hK => ?_)
        go_simp
        exact hK _ _ ⟨hoff.put (by decide) _, ⟨hJ.1, hJ.2.off (Nat.le_refl _) (by decide) _⟩, put_self _ hsz, fun j hj hF => F9_keep hF (put_other _ (Ne.symm (ne j hj))) (Below.refl _ _)⟩
      by_cases h7 : i = 7
      · subst h7
        obtain rfl := Option.some.inj ho
        have ne : ∀ j, l.getD j false = true → slot9 j ≠ 51 := by
          intro j hj e
          unfold slot9 at e
          split at e <;> first | exact absurd e (by decide) | exact getD_conf hun hj
        have hsz : 51 < a.tmps.size := by rw [hoff.size]; exact (show 51 < 116 by decide)
        have x0 : a.tmps.getD 48 undef = .agg #[.bool false, .int .u64 (ah : Int), .int .u64 (al : Int)] := hdep ⟨4, .data⟩ (by simp) rfl
        have x1 : a.tmps.getD 49 undef = .int .u8 (NN : Int) := hdep ⟨5, .data⟩ (by simp) rfl
        have x2 : a.tmps.getD 50 undef = .int .u8 32 := hdep ⟨6, .data⟩ (by simp) rfl
        refine wpOp_step rfl (fun K' hK => ?_)
        go_simp
        refine (HC2.out _).mono ?_
        rintro r u' ⟨rfl, du⟩
        go_simp
        exact hK _ _ ⟨hoff.put (by decide) _, ⟨after hJ.1 du, hJ.2.off du.size (by decide) _⟩, put_self _ hsz, fun j hj hF => F9_keep hF (put_other _ (Ne.symm (ne j hj))) du⟩
      by_cases h8 : i = 8
      · subst h8
        obtain rfl := Option.some.inj ho
        have ne : ∀ j, l.getD j false = true → slot9 j ≠ 52 := by
          intro j hj e
          unfold slot9 at e
          split at e <;> first | exact absurd e (by decide) | exact getD_conf hun hj
        have hsz : 52 < a.tmps.size := by rw [hoff.size]; exact (show 52 < 116 by decide)
        have h4 : a.tmps.getD 5 undef = .pointer (some ⟨w.heap.size + 1, 0, none⟩) := (hoff.get (by decide)).trans rfl
        have hau := hb3.below hJ.1 hb3.lt
        have x0 := hau.cell 0
        have x1 := hau.cell 1
        have x2 := hau.cell 2
        simp at x0 x1 x2
        refine wpOp_step rfl (fun K' hK => ?_)
        go_simp
        exact hK _ _ ⟨hoff.put (by decide) _, ⟨hJ.1, hJ.2.off (Nat.le_refl _) (by decide) _⟩, put_self _ hsz, fun j hj hF => F9_keep hF (put_other _ (Ne.symm (ne j hj))) (Below.refl _ _)⟩
      by_cases h9 : i = 9
      · subst h9
        obtain rfl := Option.some.inj ho
        have ne : ∀ j, l.getD j false = true → slot9 j ≠ 53 := by
          intro j hj e
          unfold slot9 at e
          split at e <;> first | exact absurd e (by decide) | exact getD_conf hun hj
        have hsz : 53 < a.tmps.size := by rw [hoff.size]; exact (show 53 < 116 by decide)
        have h4 : a.tmps.getD 3 undef = .int .u8 (NN : Int) := (hoff.get (by decide)).trans rfl
        refine wpOp_step rfl (fun K' hK => ?_)
        go_simp
        exact hK _ _ ⟨hoff.put (by decide) _, ⟨hJ.1, hJ.2.off (Nat.le_refl _) (by decide) _⟩, put_self _ hsz, fun j hj hF => F9_keep hF (put_other _ (Ne.symm (ne j hj))) (Below.refl _ _)⟩
      by_cases h10 : i = 10
      · subst h10
        obtain rfl := Option.some.inj ho
        have ne : ∀ j, l.getD j false = true → slot9 j ≠ 54 := by
          intro j hj e
          unfold slot9 at e
          split at e <;> first | exact absurd e (by decide) | exact getD_conf hun hj
        have hsz : 54 < a.tmps.size := by rw [hoff.size]; exact (show 54 < 116 by decide)
        have h4 : a.tmps.getD 9 undef = .int .u8 32 := (hoff.get (by decide)).trans rfl
        refine wpOp_step rfl (fun K' hK => ?_)
        go_simp
        exact hK _ _ ⟨hoff.put (by decide) _, ⟨hJ.1, hJ.2.off (Nat.le_refl _) (by decide) _⟩, put_self _ hsz, fun j hj hF => F9_keep hF (put_other _ (Ne.symm (ne j hj))) (Below.refl _ _)⟩
      by_cases h11 : i = 11
      · subst h11
        obtain rfl := Option.some.inj ho
        have ne : ∀ j, l.getD j false = true → slot9 j ≠ 55 := by
          intro j hj e
          unfold slot9 at e
          split at e <;> first | exact absurd e (by decide) | exact getD_conf hun hj
        have hsz : 55 < a.tmps.size := by rw [hoff.size]; exact (show 55 < 116 by decide)
        have x0 : a.tmps.getD 52 undef = .agg #[.bool false, .int .u64 (bh : Int), .int .u64 (bl : Int)] := hdep ⟨8, .data⟩ (by simp) rfl
        have x1 : a.tmps.getD 53 undef = .int .u8 (NN : Int) := hdep ⟨9, .data⟩ (by simp) rfl
        have x2 : a.tmps.getD 54 undef = .int .u8 32 := hdep ⟨10, .data⟩ (by simp) rfl
        refine wpOp_step rfl (fun K' hK => ?_)
        go_simp
        refine (HC3.out _).mono ?_
        rintro r u' ⟨rfl, du⟩
        go_simp
        exact hK _ _ ⟨hoff.put (by decide) _, ⟨after hJ.1 du, hJ.2.off du.size (by decide) _⟩, put_self _ hsz, fun j hj hF => F9_keep hF (put_other _ (Ne.symm (ne j hj))) du⟩
      by_cases h12 : i = 12
      · subst h12
        obtain rfl := Option.some.inj ho
        have ne : ∀ j, l.getD j false = true → slot9 j ≠ 10 := by
          intro j hj e
          unfold slot9 at e
          split at e <;> first | exact absurd e (by decide) | exact getD_conf hun hj | exact getD_conf hun (hcl _ _ rfl hj ⟨12, .data⟩ (by simp) rfl)
        have hsz : 10 < a.tmps.size := by rw [hoff.size]; exact (show 10 < 116 by decide)
        refine wpOp_step rfl (fun K' hK => ?_)
        go_simp
        exact hK _ _ ⟨hoff.put (by decide) _, ⟨after hJ.1 (boxed _ _), hJ.2.make hJ.1.size (by simp) hsz⟩, ⟨u.heap.size, _, put_self _ hsz, Blk.new _ _ _, rfl⟩, fun j hj hF => F9_keep hF (put_other _ (Ne.symm (ne j hj))) (boxed _ _)⟩
      by_cases h13 : i = 13
      · subst h13
        obtain rfl := Option.some.inj ho
        have ne : ∀ j, l.getD j false = true → slot9 j ≠ 11 := by
          intro j hj e
          unfold slot9 at e
          split at e <;> first | exact absurd e (by decide) | exact getD_conf hun hj | exact getD_conf hun (hcl _ _ rfl hj ⟨13, .data⟩ (by simp) rfl)
        have hsz : 11 < a.tmps.size := by rw [hoff.size]; exact (show 11 < 116 by decide)
        refine wpOp_step rfl (fun K' hK => ?_)
        go_simp
        exact hK _ _ ⟨hoff.put (by decide) _, ⟨after hJ.1 (boxed _ _), hJ.2.make hJ.1.size (by simp) hsz⟩, ⟨u.heap.size, _, put_self _ hsz, Blk.new _ _ _, rfl⟩, fun j hj hF => F9_keep hF (put_other _ (Ne.symm (ne j hj))) (boxed _ _)⟩
      by_cases h14 : i = 14
      · subst h14
        obtain rfl := Option.some.inj ho
        have ne : ∀ j, l.getD j false = true → slot9 j ≠ 12 := by
          intro j hj e
          unfold slot9 at e
          split at e <;> first | exact absurd e (by decide) | exact getD_conf hun hj | exact getD_conf hun (hcl _ _ rfl hj ⟨14, .data⟩ (by simp) rfl)
        have hsz : 12 < a.tmps.size := by rw [hoff.size]; exact (show 12 < 116 by decide)
        refine wpOp_step rfl (fun K' hK => ?_)
        go_simp
        exact hK _ _ ⟨hoff.put (by decide) _, ⟨after hJ.1 (boxed _ _), hJ.2.make hJ.1.size (by simp) hsz⟩, ⟨u.heap.size, _, put_self _ hsz, Blk.new _ _ _, rfl⟩, fun j hj hF => F9_keep hF (put_other _ (Ne.symm (ne j hj))) (boxed _ _)⟩
      by_cases h15 : i = 15
      · subst h15
        obtain rfl := Option.some.inj ho
        obtain ⟨g, cs, y1, y2, y3⟩ : ∃ (p : Nat) (cs : Array Value), a.tmps.getD 10 undef = .pointer (some ⟨p, 0, none⟩) ∧ Blk u p 39 cs ∧ cs.size = 4 := hdep ⟨12, .data⟩ (by simp) rfl
        have x0 : a.tmps.getD 47 undef = .agg #[.bool false, .int .u64 (p2 : Int), .int .u64 (p3 : Int), .int .u8 (MM : Int)] := hdep ⟨3, .data⟩ (by simp) rfl
        obtain ⟨z0, z1, z2, z3, rfl⟩ := four_of y3
        have t0 := y2.cell 0
        have t1 := y2.cell 1
        have t2 := y2.cell 2
        have t3 := y2.cell 3
        simp at t0 t1 t2 t3
        have f0 := y2.frozen 0
        have f1 := y2.frozen 1
        have f2 := y2.frozen 2
        have f3 := y2.frozen 3
        have hg := (hJ.2.low 10 (by simp) _ y1).1
        obtain ⟨k1, k2⟩ := four y2 hJ.1 hg (v0 := .bool false) (v1 := .int .u64 (p2 : Int)) (v2 := .int .u64 (p3 : Int)) (v3 := .int .u8 (MM : Int))
        refine wpOp_step rfl (fun K' hK => ?_)
        go_simp
        refine hK _ _ ⟨hoff, ⟨k2, hJ.2.same (by simp)⟩, ⟨g, y1, k1⟩, fun j hj hF => ?_⟩
        exact F9_store hF y1 y2 k1 (fun h t c hh hb => by simpa using (((hb.far hh _).far hh _).far hh _).far hh _) hJ.2 (by simp) (by rintro rfl; exact getD_conf hun hj)
      by_cases h16 : i = 16
      · subst h16
        obtain rfl := Option.some.inj ho
        obtain ⟨g, cs, y1, y2, y3⟩ : ∃ (p : Nat) (cs : Array Value), a.tmps.getD 11 undef = .pointer (some ⟨p, 0, none⟩) ∧ Blk u p 39 cs ∧ cs.size = 4 := hdep ⟨13, .data⟩ (by simp) rfl
        have x0 : a.tmps.getD 51 undef = .agg #[.bool false, .int .u64 (q2 : Int), .int .u64 (q3 : Int), .int .u8 (NN : Int)] := hdep ⟨7, .data⟩ (by simp) rfl
        obtain ⟨z0, z1, z2, z3, rfl⟩ := four_of y3
        have t0 := y2.cell 0
        have t1 := y2.cell 1
        have t2 := y2.cell 2
        have t3 := y2.cell 3
        simp at t0 t1 t2 t3
        have f0 := y2.frozen 0
        have f1 := y2.frozen 1
        have f2 := y2.frozen 2
        have f3 := y2.frozen 3
        have hg := (hJ.2.low 11 (by simp) _ y1).1
        obtain ⟨k1, k2⟩ := four y2 hJ.1 hg (v0 := .bool false) (v1 := .int .u64 (q2 : Int)) (v2 := .int .u64 (q3 : Int)) (v3 := .int .u8 (NN : Int))
        refine wpOp_step rfl (fun K' hK => ?_)
        go_simp
        refine hK _ _ ⟨hoff, ⟨k2, hJ.2.same (by simp)⟩, ⟨g, y1, k1⟩, fun j hj hF => ?_⟩
        exact F9_store hF y1 y2 k1 (fun h t c hh hb => by simpa using (((hb.far hh _).far hh _).far hh _).far hh _) hJ.2 (by simp) (by rintro rfl; exact getD_conf hun hj)
      by_cases h17 : i = 17
      · subst h17
        obtain rfl := Option.some.inj ho
        obtain ⟨g, cs, y1, y2, y3⟩ : ∃ (p : Nat) (cs : Array Value), a.tmps.getD 12 undef = .pointer (some ⟨p, 0, none⟩) ∧ Blk u p 39 cs ∧ cs.size = 4 := hdep ⟨14, .data⟩ (by simp) rfl
        have x0 : a.tmps.getD 55 undef = .agg #[.bool false, .int .u64 (r2 : Int), .int .u64 (r3 : Int), .int .u8 (NN : Int)] := hdep ⟨11, .data⟩ (by simp) rfl
        obtain ⟨z0, z1, z2, z3, rfl⟩ := four_of y3
        have t0 := y2.cell 0
        have t1 := y2.cell 1
        have t2 := y2.cell 2
        have t3 := y2.cell 3
        simp at t0 t1 t2 t3
        have f0 := y2.frozen 0
        have f1 := y2.frozen 1
        have f2 := y2.frozen 2
        have f3 := y2.frozen 3
        have hg := (hJ.2.low 12 (by simp) _ y1).1
        obtain ⟨k1, k2⟩ := four y2 hJ.1 hg (v0 := .bool false) (v1 := .int .u64 (r2 : Int)) (v2 := .int .u64 (r3 : Int)) (v3 := .int .u8 (NN : Int))
        refine wpOp_step rfl (fun K' hK => ?_)
        go_simp
        refine hK _ _ ⟨hoff, ⟨k2, hJ.2.same (by simp)⟩, ⟨g, y1, k1⟩, fun j hj hF => ?_⟩
        exact F9_store hF y1 y2 k1 (fun h t c hh hb => by simpa using (((hb.far hh _).far hh _).far hh _).far hh _) hJ.2 (by simp) (by rintro rfl; exact getD_conf hun hj)
      omega
    case hend =>
      intro a u hoff hJ hall
      obtain ⟨p, y1, k1⟩ : ∃ p : Nat, a.tmps.getD 10 undef = .pointer (some ⟨p, 0, none⟩) ∧ Blk u p 39 #[.bool false, .int .u64 (p2 : Int), .int .u64 (p3 : Int), .int .u8 (MM : Int)] := hall 15 (by decide)
      obtain ⟨q, y2, k2⟩ : ∃ p : Nat, a.tmps.getD 11 undef = .pointer (some ⟨p, 0, none⟩) ∧ Blk u p 39 #[.bool false, .int .u64 (q2 : Int), .int .u64 (q3 : Int), .int .u8 (NN : Int)] := hall 16 (by decide)
      obtain ⟨r, y3, k3⟩ : ∃ p : Nat, a.tmps.getD 12 undef = .pointer (some ⟨p, 0, none⟩) ∧ Blk u p 39 #[.bool false, .int .u64 (r2 : Int), .int .u64 (r3 : Int), .int .u8 (NN : Int)] := hall 17 (by decide)
      have e := hoff.eq
      simp only [putL] at e
      rw [y1, y2, y3] at e
      generalize a.tmps.getD 44 undef = s44 at e
      generalize a.tmps.getD 45 undef = s45 at e
      generalize a.tmps.getD 46 undef = s46 at e
      generalize a.tmps.getD 47 undef = s47 at e
      generalize a.tmps.getD 48 undef = s48 at e
      generalize a.tmps.getD 49 undef = s49 at e
      generalize a.tmps.getD 50 undef = s50 at e
      generalize a.tmps.getD 51 undef = s51 at e
      generalize a.tmps.getD 52 undef = s52 at e
      generalize a.tmps.getD 53 undef = s53 at e
      generalize a.tmps.getD 54 undef = s54 at e
      generalize a.tmps.getD 55 undef = s55 at e
      have hb1 := hJ.1
      clear hall hoff hJ y1 y2 y3
      subst e
      go_wp2_with fail
      go_meet
      exact ⟨p, q, r, rfl, rfl, rfl, hb1, k1, k2, k3⟩
  case rest =>
  obtain ⟨p, q, r, rfl, rfl, rfl, hbw, hp, hq, hr⟩ := hcut
  have hv := after hv3 hbw
  have ha := ha3.below hbw ha3.lt
  have hb := hb3.below hbw hb3.lt
  clear hv3 ha3 hb3 hbw a0 a1 a2 b0 b1 b2 HC1 HC2 HC3
  have hza : (Ad.mk false ah al).size = 32 := rfl
  have hM' : MM ≤ (Ad.mk false ah al).size := by rw [hza]; omega
  have hN' : NN ≤ (Ad.mk false ah al).size := by rw [hza]; omega
  have ok1 : (Pf.mk ⟨false, p2, p3⟩ MM).Ok := ⟨by show (Ad.mk false p2 p3).Ok; rw [HP1.out]; exact cut_ok oka MM, by show MM < 256; omega⟩
  have ok2 : (Pf.mk ⟨false, q2, q3⟩ NN).Ok := ⟨by show (Ad.mk false q2 q3).Ok; rw [HP2.out]; exact cut_ok oka NN, by show NN < 256; omega⟩
  have m1 := fun u => mayPrefix_any ⟨⟨false, p2, p3⟩, MM⟩ ok1 u
  have m2 := fun u => mayPrefix_any ⟨⟨false, q2, q3⟩, NN⟩ ok2 u
  have g1 := fun u => holds_any ⟨⟨false, p2, p3⟩, MM⟩ ⟨false, ah, al⟩ ok1 oka u
  have g2 := fun u => holds_any ⟨⟨false, q2, q3⟩, NN⟩ ⟨false, ah, al⟩ ok2 oka u
  have g3 := fun u => holds_any ⟨⟨false, q2, q3⟩, NN⟩ ⟨false, bh, bl⟩ ok2 okb u
  have g4 := fun u => holds_any ⟨⟨false, p2, p3⟩, MM⟩ ⟨false, bh, bl⟩ ok1 okb u
  have l1 := fun u => less_any ⟨false, ah, al⟩ ⟨false, bh, bl⟩ u
  have l2 := fun u => less_any ⟨false, bh, bl⟩ ⟨false, ah, al⟩ u
  have i1 : pmay ⟨⟨false, p2, p3⟩, MM⟩ = true := by rw [HP1.out]; exact cut_pmay oka hma hM'
  have i2 : pmay ⟨⟨false, q2, q3⟩, NN⟩ = true := by rw [HP2.out]; exact cut_pmay oka hma hN'
  have i3 : holdsP ⟨⟨false, p2, p3⟩, MM⟩ ⟨false, ah, al⟩ = true := by rw [HP1.out, cut_holds oka hma hM' _ hma rfl]; exact decide_eq_true rfl
  have i4 : holdsP ⟨⟨false, q2, q3⟩, NN⟩ ⟨false, ah, al⟩ = true := by rw [HP2.out, cut_holds oka hma hN' _ hma rfl]; exact decide_eq_true rfl
  have i5 : holdsP ⟨⟨false, q2, q3⟩, NN⟩ ⟨false, bh, bl⟩ = decide ((Ad.mk false bh bl).val / 2 ^ (32 - NN) = (Ad.mk false ah al).val / 2 ^ (32 - NN)) := by rw [HP2.out, cut_holds oka hma hN' _ hmb rfl]; rfl
  have i6 : holdsP ⟨⟨false, p2, p3⟩, MM⟩ ⟨false, bh, bl⟩ = decide ((Ad.mk false bh bl).val / 2 ^ (32 - MM) = (Ad.mk false ah al).val / 2 ^ (32 - MM)) := by rw [HP1.out, cut_holds oka hma hM' _ hmb rfl]; rfl
  have i7 : (Ad.mk false r2 r3 = Ad.mk false q2 q3) ↔ (Ad.mk false bh bl).val / 2 ^ (32 - NN) = (Ad.mk false ah al).val / 2 ^ (32 - NN) := by rw [HP2.out, HP3.out]; exact cut_same oka okb hma hmb rfl hN'
  rw [i1] at m1
  rw [i2] at m2
  rw [i3] at g1
  rw [i4] at g2
  rw [i5] at g3
  rw [i6] at g4
  clear i1 i2 i3 i4 i5 i6 ok1 ok2 HP1 HP2 HP3
  unfold Pf.cells Ad.cells at *
  simp only at m1 m2 g1 g2 g3 g4 l1 l2
  have HM1 := Lib.hid m1
  have HM2 := Lib.hid m2
  have HG1 := Lib.hid g1
  have HG2 := Lib.hid g2
  clear m1 m2 g1 g2
  by_cases hsame : (Ad.mk false bh bl).val / 2 ^ (32 - NN) = (Ad.mk false ah al).val / 2 ^ (32 - NN)
  · have hcoarse : (Ad.mk false bh bl).val / 2 ^ (32 - MM) = (Ad.mk false ah al).val / 2 ^ (32 - MM) := div_coarser (by omega) hsame
    have e := i7.2 hsame
    injection e with _ e2 e3
    subst e2 e3
    simp only [decide_eq_true hsame] at g3
    simp only [decide_eq_true hcoarse] at g4
    have HG3 := Lib.hid g3
    have HG4 := Lib.hid g4
    clear g3 g4 hsame hcoarse i7
    have a0 := ha.cell 0; have a1 := ha.cell 1; have a2 := ha.cell 2; have b0 := hb.cell 0; have b1 := hb.cell 1; have b2 := hb.cell 2; have cp0 := hp.cell 0; have cp1 := hp.cell 1; have cp2 := hp.cell 2; have cp3 := hp.cell 3; have cq0 := hq.cell 0; have cq1 := hq.cell 1; have cq2 := hq.cell 2; have cq3 := hq.cell 3; have cr0 := hr.cell 0; have cr1 := hr.cell 1; have cr2 := hr.cell 2; have cr3 := hr.cell 3; simp at a0 a1 a2 b0 b1 b2 cp0 cp1 cp2 cp3 cq0 cq1 cq2 cq3 cr0 cr1 cr2 cr3; clear oka okb hza hM' hN' hMN hNN
    go_upto_region 14 with (first | (go_at_call 22; (with_reducible refine (HM1.out _).mono ?_); rintro r9 w9 ⟨rfl, gq⟩; have hv := after hv gq; have ha := ha.below gq ha.lt; have hb := hb.below gq hb.lt; have hp := hp.below gq hp.lt; have hq := hq.below gq hq.lt; have hr := hr.below gq hr.lt; clear gq; have a0 := ha.cell 0; have a1 := ha.cell 1; have a2 := ha.cell 2; have b0 := hb.cell 0; have b1 := hb.cell 1; have b2 := hb.cell 2; have cp0 := hp.cell 0; have cp1 := hp.cell 1; have cp2 := hp.cell 2; have cp3 := hp.cell 3; have cq0 := hq.cell 0; have cq1 := hq.cell 1; have cq2 := hq.cell 2; have cq3 := hq.cell 3; have cr0 := hr.cell 0; have cr1 := hr.cell 1; have cr2 := hr.cell 2; have cr3 := hr.cell 3; simp at a0 a1 a2 b0 b1 b2 cp0 cp1 cp2 cp3 cq0 cq1 cq2 cq3 cr0 cr1 cr2 cr3) | (go_at_call 22; (with_reducible refine (HM2.out _).mono ?_); rintro r9 w9 ⟨rfl, gq⟩; have hv := after hv gq; have ha := ha.below gq ha.lt; have hb := hb.below gq hb.lt; have hp := hp.below gq hp.lt; have hq := hq.below gq hq.lt; have hr := hr.below gq hr.lt; clear gq; have a0 := ha.cell 0; have a1 := ha.cell 1; have a2 := ha.cell 2; have b0 := hb.cell 0; have b1 := hb.cell 1; have b2 := hb.cell 2; have cp0 := hp.cell 0; have cp1 := hp.cell 1; have cp2 := hp.cell 2; have cp3 := hp.cell 3; have cq0 := hq.cell 0; have cq1 := hq.cell 1; have cq2 := hq.cell 2; have cq3 := hq.cell 3; have cr0 := hr.cell 0; have cr1 := hr.cell 1; have cr2 := hr.cell 2; have cr3 := hr.cell 3; simp at a0 a1 a2 b0 b1 b2 cp0 cp1 cp2 cp3 cq0 cq1 cq2 cq3 cr0 cr1 cr2 cr3) | (go_at_call 28; (with_reducible refine (HG1.out _).mono ?_); rintro r9 w9 ⟨rfl, gq⟩; have hv := after hv gq; have ha := ha.below gq ha.lt; have hb := hb.below gq hb.lt; have hp := hp.below gq hp.lt; have hq := hq.below gq hq.lt; have hr := hr.below gq hr.lt; clear gq; have a0 := ha.cell 0; have a1 := ha.cell 1; have a2 := ha.cell 2; have b0 := hb.cell 0; have b1 := hb.cell 1; have b2 := hb.cell 2; have cp0 := hp.cell 0; have cp1 := hp.cell 1; have cp2 := hp.cell 2; have cp3 := hp.cell 3; have cq0 := hq.cell 0; have cq1 := hq.cell 1; have cq2 := hq.cell 2; have cq3 := hq.cell 3; have cr0 := hr.cell 0; have cr1 := hr.cell 1; have cr2 := hr.cell 2; have cr3 := hr.cell 3; simp at a0 a1 a2 b0 b1 b2 cp0 cp1 cp2 cp3 cq0 cq1 cq2 cq3 cr0 cr1 cr2 cr3) | (go_at_call 28; (with_reducible refine (HG2.out _).mono ?_); rintro r9 w9 ⟨rfl, gq⟩; have hv := after hv gq; have ha := ha.below gq ha.lt; have hb := hb.below gq hb.lt; have hp := hp.below gq hp.lt; have hq := hq.below gq hq.lt; have hr := hr.below gq hr.lt; clear gq; have a0 := ha.cell 0; have a1 := ha.cell 1; have a2 := ha.cell 2; have b0 := hb.cell 0; have b1 := hb.cell 1; have b2 := hb.cell 2; have cp0 := hp.cell 0; have cp1 := hp.cell 1; have cp2 := hp.cell 2; have cp3 := hp.cell 3; have cq0 := hq.cell 0; have cq1 := hq.cell 1; have cq2 := hq.cell 2; have cq3 := hq.cell 3; have cr0 := hr.cell 0; have cr1 := hr.cell 1; have cr2 := hr.cell 2; have cr3 := hr.cell 3; simp at a0 a1 a2 b0 b1 b2 cp0 cp1 cp2 cp3 cq0 cq1 cq2 cq3 cr0 cr1 cr2 cr3) | (go_at_call 28; (with_reducible refine (HG3.out _).mono ?_); rintro r9 w9 ⟨rfl, gq⟩; have hv := after hv gq; have ha := ha.below gq ha.lt; have hb := hb.below gq hb.lt; have hp := hp.below gq hp.lt; have hq := hq.below gq hq.lt; have hr := hr.below gq hr.lt; clear gq; have a0 := ha.cell 0; have a1 := ha.cell 1; have a2 := ha.cell 2; have b0 := hb.cell 0; have b1 := hb.cell 1; have b2 := hb.cell 2; have cp0 := hp.cell 0; have cp1 := hp.cell 1; have cp2 := hp.cell 2; have cp3 := hp.cell 3; have cq0 := hq.cell 0; have cq1 := hq.cell 1; have cq2 := hq.cell 2; have cq3 := hq.cell 3; have cr0 := hr.cell 0; have cr1 := hr.cell 1; have cr2 := hr.cell 2; have cr3 := hr.cell 3; simp at a0 a1 a2 b0 b1 b2 cp0 cp1 cp2 cp3 cq0 cq1 cq2 cq3 cr0 cr1 cr2 cr3) | (go_at_call 28; (with_reducible refine (HG4.out _).mono ?_); rintro r9 w9 ⟨rfl, gq⟩; have hv := after hv gq; have ha := ha.below gq ha.lt; have hb := hb.below gq hb.lt; have hp := hp.below gq hp.lt; have hq := hq.below gq hq.lt; have hr := hr.below gq hr.lt; clear gq; have a0 := ha.cell 0; have a1 := ha.cell 1; have a2 := ha.cell 2; have b0 := hb.cell 0; have b1 := hb.cell 1; have b2 := hb.cell 2; have cp0 := hp.cell 0; have cp1 := hp.cell 1; have cp2 := hp.cell 2; have cp3 := hp.cell 3; have cq0 := hq.cell 0; have cq1 := hq.cell 1; have cq2 := hq.cell 2; have cq3 := hq.cell 3; have cr0 := hr.cell 0; have cr1 := hr.cell 1; have cr2 := hr.cell 2; have cr3 := hr.cell 3; simp at a0 a1 a2 b0 b1 b2 cp0 cp1 cp2 cp3 cq0 cq1 cq2 cq3 cr0 cr1 cr2 cr3) | (go_at_call 30; (with_reducible refine (HL1.out _).mono ?_); rintro r9 w9 ⟨rfl, gq⟩; have hv := after hv gq; have ha := ha.below gq ha.lt; have hb := hb.below gq hb.lt; have hp := hp.below gq hp.lt; have hq := hq.below gq hq.lt; have hr := hr.below gq hr.lt; clear gq; have a0 := ha.cell 0; have a1 := ha.cell 1; have a2 := ha.cell 2; have b0 := hb.cell 0; have b1 := hb.cell 1; have b2 := hb.cell 2; have cp0 := hp.cell 0; have cp1 := hp.cell 1; have cp2 := hp.cell 2; have cp3 := hp.cell 3; have cq0 := hq.cell 0; have cq1 := hq.cell 1; have cq2 := hq.cell 2; have cq3 := hq.cell 3; have cr0 := hr.cell 0; have cr1 := hr.cell 1; have cr2 := hr.cell 2; have cr3 := hr.cell 3; simp at a0 a1 a2 b0 b1 b2 cp0 cp1 cp2 cp3 cq0 cq1 cq2 cq3 cr0 cr1 cr2 cr3) | (go_at_call 30; (with_reducible refine (HL2.out _).mono ?_); rintro r9 w9 ⟨rfl, gq⟩; have hv := after hv gq; have ha := ha.below gq ha.lt; have hb := hb.below gq hb.lt; have hp := hp.below gq hp.lt; have hq := hq.below gq hq.lt; have hr := hr.below gq hr.lt; clear gq; have a0 := ha.cell 0; have a1 := ha.cell 1; have a2 := ha.cell 2; have b0 := hb.cell 0; have b1 := hb.cell 1; have b2 := hb.cell 2; have cp0 := hp.cell 0; have cp1 := hp.cell 1; have cp2 := hp.cell 2; have cp3 := hp.cell 3; have cq0 := hq.cell 0; have cq1 := hq.cell 1; have cq2 := hq.cell 2; have cq3 := hq.cell 3; have cr0 := hr.cell 0; have cr1 := hr.cell 1; have cr2 := hr.cell 2; have cr3 := hr.cell 3; simp at a0 a1 a2 b0 b1 b2 cp0 cp1 cp2 cp3 cq0 cq1 cq2 cq3 cr0 cr1 cr2 cr3) | (go_at_call 9; (with_reducible refine (HWK.out _ hv).mono ?_); rintro r9 w9 ⟨rfl, gq⟩; have hv := after hv gq; have ha := ha.below gq ha.lt; have hb := hb.below gq hb.lt; have hp := hp.below gq hp.lt; have hq := hq.below gq hq.lt; have hr := hr.below gq hr.lt; clear gq; have a0 := ha.cell 0; have a1 := ha.cell 1; have a2 := ha.cell 2; have b0 := hb.cell 0; have b1 := hb.cell 1; have b2 := hb.cell 2; have cp0 := hp.cell 0; have cp1 := hp.cell 1; have cp2 := hp.cell 2; have cp3 := hp.cell 3; have cq0 := hq.cell 0; have cq1 := hq.cell 1; have cq2 := hq.cell 2; have cq3 := hq.cell 3; have cr0 := hr.cell 0; have cr1 := hr.cell 1; have cr2 := hr.cell 2; have cr3 := hr.cell 3; simp at a0 a1 a2 b0 b1 b2 cp0 cp1 cp2 cp3 cq0 cq1 cq2 cq3 cr0 cr1 cr2 cr3))
    have hk : K14 w false w.heap.size (w.heap.size + 1) q r ah al bh bl r2 r3 r2 r3 NN _ := ⟨hv.drew, ha.drew, hb.drew, hq.drew, hr.drew⟩
    clear a0 a1 a2 b0 b1 b2 cp0 cp1 cp2 cp3 cq0 cq1 cq2 cq3 cr0 cr1 cr2 cr3 hv ha hb hp hq hr
    by_cases hab : Ad.mk false ah al = Ad.mk false bh bl
    · have hls := (less_same _ _).1 hab
      rw [hls.1] at l1
      rw [hls.2] at l2
      injection hab with _ e2 e3
      subst e2 e3
      have HL1 := Lib.hid l1
      have HL2 := Lib.hid l2
      clear l1 l2 hls
      refine wp_region_held_drew (S := S14 false w.heap.size (w.heap.size + 1) q r ah al ah al r2 r3 r2 r3 NN) (by kernel_rfl) hk.S (fun hHeld => ?_)
      refine' wpAnyH_take (i := 0) (v := _) rfl (by kernel_rfl) (by kernel_rfl) (by kernel_rfl) (fun _ _ _ h => h) (Or.inl ⟨by rfl, ?ly1⟩) (by assumption) ?lrest1
      case ly1 =>
        intro w hSw
        unfold S14 at hSw
        go_simp
        try with_reducible rfl
      try simp only [Act.put, List.setIfInBounds_toArray, List.set_cons_zero, List.set_cons_succ, List.getElem_toArray, List.getElem_cons_zero, List.getElem_cons_succ]
      refine' wpAnyH_take (i := 1) (v := _) rfl (by kernel_rfl) (by kernel_rfl) (by kernel_rfl) (fun _ _ _ h => h) (Or.inl ⟨by rfl, ?ly2⟩) (by assumption) ?lrest2
      case ly2 =>
        intro w hSw
        unfold S14 at hSw
        go_simp
        try with_reducible rfl
      try simp only [Act.put, List.setIfInBounds_toArray, List.set_cons_zero, List.set_cons_succ, List.getElem_toArray, List.getElem_cons_zero, List.getElem_cons_succ]
      refine' wpAnyH_take (i := 3) (v := _) rfl (by kernel_rfl) (by kernel_rfl) (by kernel_rfl) (fun _ _ _ h => h) (Or.inl ⟨by rfl, ?ly3⟩) (by assumption) ?lrest3
      case ly3 =>
        intro w hSw
        unfold S14 at hSw
        go_simp
        try with_reducible rfl
      try simp only [Act.put, List.setIfInBounds_toArray, List.set_cons_zero, List.set_cons_succ, List.getElem_toArray, List.getElem_cons_zero, List.getElem_cons_succ]
      refine' wpAnyH_take (i := 4) (v := _) rfl (by kernel_rfl) (by kernel_rfl) (by kernel_rfl) (fun _ _ _ h => h) (Or.inl ⟨by rfl, ?ly4⟩) (by assumption) ?lrest4
      case ly4 =>
        intro w hSw
        unfold S14 at hSw
        go_simp
        try with_reducible rfl
      try simp only [Act.put, List.setIfInBounds_toArray, List.set_cons_zero, List.set_cons_succ, List.getElem_toArray, List.getElem_cons_zero, List.getElem_cons_succ]
      refine' wpAnyH_take (i := 5) (v := _) rfl (by kernel_rfl) (by kernel_rfl) (by kernel_rfl) (fun _ _ _ h => h) (Or.inl ⟨by rfl, ?ly5⟩) (by assumption) ?lrest5
      case ly5 =>
        intro w hSw
        unfold S14 at hSw
        go_simp
        try with_reducible rfl
      try simp only [Act.put, List.setIfInBounds_toArray, List.set_cons_zero, List.set_cons_succ, List.getElem_toArray, List.getElem_cons_zero, List.getElem_cons_succ]
      refine wpAnyH_ready (rs := [2]) (by kernel_rfl) (by simp) ?_
      refine AllReadyH.cons rfl (fun K hK => ?_) AllReadyH.nil
      go_simp
      refine (HG3.out _).mono ?_
      rintro r9 w9 ⟨rfl, gq⟩
      have hk := hk.step gq
      refine hK.out _ _ hk.S (fun hHeld => ?_)
      clear hK K
      try simp only [Act.put, List.setIfInBounds_toArray, List.set_cons_zero, List.set_cons_succ, List.getElem_toArray, List.getElem_cons_zero, List.getElem_cons_succ]
      refine' wpAnyH_take (i := 6) (v := _) rfl (by kernel_rfl) (by kernel_rfl) (by kernel_rfl) (fun _ _ _ h => h) (Or.inl ⟨by rfl, ?ly7⟩) (by assumption) ?lrest7
      case ly7 =>
        intro w hSw
        unfold S14 at hSw
        go_simp
        try with_reducible rfl
      try simp only [Act.put, List.setIfInBounds_toArray, List.set_cons_zero, List.set_cons_succ, List.getElem_toArray, List.getElem_cons_zero, List.getElem_cons_succ]
      refine' wpAnyH_take (i := 7) (v := _) rfl (by kernel_rfl) (by kernel_rfl) (by kernel_rfl) (fun _ _ _ h => h) (Or.inl ⟨by rfl, ?ly8⟩) (by assumption) ?lrest8
      case ly8 =>
        intro w hSw
        unfold S14 at hSw
        go_simp
        try with_reducible rfl
      try simp only [Act.put, List.setIfInBounds_toArray, List.set_cons_zero, List.set_cons_succ, List.getElem_toArray, List.getElem_cons_zero, List.getElem_cons_succ]
      refine' wpAnyH_take (i := 8) (v := _) rfl (by kernel_rfl) (by kernel_rfl) (by kernel_rfl) (fun _ _ _ h => h) (Or.inl ⟨by rfl, ?ly9⟩) (by assumption) ?lrest9
      case ly9 =>
        intro w hSw
        unfold S14 at hSw
        go_simp
        try with_reducible rfl
      try simp only [Act.put, List.setIfInBounds_toArray, List.set_cons_zero, List.set_cons_succ, List.getElem_toArray, List.getElem_cons_zero, List.getElem_cons_succ]
      refine' wpAnyH_take (i := 9) (v := _) rfl (by kernel_rfl) (by kernel_rfl) (by kernel_rfl) (fun _ _ _ h => h) (Or.inl ⟨by rfl, ?ly10⟩) (by assumption) ?lrest10
      case ly10 =>
        intro w hSw
        unfold S14 at hSw
        go_simp
        try with_reducible rfl
      try simp only [Act.put, List.setIfInBounds_toArray, List.set_cons_zero, List.set_cons_succ, List.getElem_toArray, List.getElem_cons_zero, List.getElem_cons_succ]
      refine' wpAnyH_take (i := 10) (v := _) rfl (by kernel_rfl) (by kernel_rfl) (by kernel_rfl) (fun _ _ _ h => h) (Or.inl ⟨by rfl, ?ly11⟩) (by assumption) ?lrest11
      case ly11 =>
        intro w hSw
        unfold S14 at hSw
        go_simp
        try with_reducible rfl
      try simp only [Act.put, List.setIfInBounds_toArray, List.set_cons_zero, List.set_cons_succ, List.getElem_toArray, List.getElem_cons_zero, List.getElem_cons_succ]
      refine' wpAnyH_take (i := 11) (v := _) rfl (by kernel_rfl) (by kernel_rfl) (by kernel_rfl) (fun _ _ _ h => h) (Or.inl ⟨by rfl, ?ly12⟩) (by assumption) ?lrest12
      case ly12 =>
        intro w hSw
        unfold S14 at hSw
        go_simp
        try with_reducible rfl
      try simp only [Act.put, List.setIfInBounds_toArray, List.set_cons_zero, List.set_cons_succ, List.getElem_toArray, List.getElem_cons_zero, List.getElem_cons_succ]
      refine' wpAnyH_take (i := 12) (v := _) rfl (by kernel_rfl) (by kernel_rfl) (by kernel_rfl) (fun _ _ _ h => h) (Or.inl ⟨by rfl, ?ly13⟩) (by assumption) ?lrest13
      case ly13 =>
        intro w hSw
        unfold S14 at hSw
        go_simp
        try with_reducible rfl
      try simp only [Act.put, List.setIfInBounds_toArray, List.set_cons_zero, List.set_cons_succ, List.getElem_toArray, List.getElem_cons_zero, List.getElem_cons_succ]
      refine wpAnyH_ready (rs := [13]) (by kernel_rfl) (by simp) ?_
      refine AllReadyH.cons rfl (fun K hK => ?_) AllReadyH.nil
      go_simp
      refine (HL1.out _).mono ?_
      rintro r9 w9 ⟨rfl, gq⟩
      have hk := hk.step gq
      refine hK.out _ _ hk.S (fun hHeld => ?_)
      clear hK K
      try simp only [Act.put, List.setIfInBounds_toArray, List.set_cons_zero, List.set_cons_succ, List.getElem_toArray, List.getElem_cons_zero, List.getElem_cons_succ]
      refine' wpAnyH_take (i := 14) (v := _) rfl (by kernel_rfl) (by kernel_rfl) (by kernel_rfl) (fun _ _ _ h => h) (Or.inl ⟨by rfl, ?ly15⟩) (by assumption) ?lrest15
      case ly15 =>
        intro w hSw
        unfold S14 at hSw
        go_simp
        try with_reducible rfl
      try simp only [Act.put, List.setIfInBounds_toArray, List.set_cons_zero, List.set_cons_succ, List.getElem_toArray, List.getElem_cons_zero, List.getElem_cons_succ]
      refine' wpAnyH_take (i := 15) (v := _) rfl (by kernel_rfl) (by kernel_rfl) (by kernel_rfl) (fun _ _ _ h => h) (Or.inl ⟨by rfl, ?ly16⟩) (by assumption) ?lrest16
      case ly16 =>
        intro w hSw
        unfold S14 at hSw
        go_simp
        try with_reducible rfl
      try simp only [Act.put, List.setIfInBounds_toArray, List.set_cons_zero, List.set_cons_succ, List.getElem_toArray, List.getElem_cons_zero, List.getElem_cons_succ]
      refine' wpAnyH_take (i := 16) (v := _) rfl (by kernel_rfl) (by kernel_rfl) (by kernel_rfl) (fun _ _ _ h => h) (Or.inl ⟨by rfl, ?ly17⟩) (by assumption) ?lrest17
      case ly17 =>
        intro w hSw
        unfold S14 at hSw
        go_simp
        try with_reducible rfl
      try simp only [Act.put, List.setIfInBounds_toArray, List.set_cons_zero, List.set_cons_succ, List.getElem_toArray, List.getElem_cons_zero, List.getElem_cons_succ]
      refine' wpAnyH_take (i := 17) (v := _) rfl (by kernel_rfl) (by kernel_rfl) (by kernel_rfl) (fun _ _ _ h => h) (Or.inl ⟨by rfl, ?ly18⟩) (by assumption) ?lrest18
      case ly18 =>
        intro w hSw
        unfold S14 at hSw
        go_simp
        try with_reducible rfl
      try simp only [Act.put, List.setIfInBounds_toArray, List.set_cons_zero, List.set_cons_succ, List.getElem_toArray, List.getElem_cons_zero, List.getElem_cons_succ]
      refine wpAnyH_ready (rs := [18]) (by kernel_rfl) (by simp) ?_
      refine AllReadyH.cons rfl (fun K hK => ?_) AllReadyH.nil
      go_simp
      refine (HL2.out _).mono ?_
      rintro r9 w9 ⟨rfl, gq⟩
      have hk := hk.step gq
      refine hK.out _ _ hk.S (fun hHeld => ?_)
      clear hK K
      try simp only [Act.put, List.setIfInBounds_toArray, List.set_cons_zero, List.set_cons_succ, List.getElem_toArray, List.getElem_cons_zero, List.getElem_cons_succ]
      refine' wpAnyH_take (i := 19) (v := _) rfl (by kernel_rfl) (by kernel_rfl) (by kernel_rfl) (fun _ _ _ h => h) (Or.inl ⟨by rfl, ?ly20⟩) (by assumption) ?lrest20
      case ly20 =>
        intro w hSw
        unfold S14 at hSw
        go_simp
        try with_reducible rfl
      try simp only [Act.put, List.setIfInBounds_toArray, List.set_cons_zero, List.set_cons_succ, List.getElem_toArray, List.getElem_cons_zero, List.getElem_cons_succ]
      refine' wpAnyH_take (i := 20) (v := _) rfl (by kernel_rfl) (by kernel_rfl) (by kernel_rfl) (fun _ _ _ h => h) (Or.inl ⟨by rfl, ?ly21⟩) (by assumption) ?lrest21
      case ly21 =>
        intro w hSw
        unfold S14 at hSw
        go_simp
        try with_reducible rfl
      try simp only [Act.put, List.setIfInBounds_toArray, List.set_cons_zero, List.set_cons_succ, List.getElem_toArray, List.getElem_cons_zero, List.getElem_cons_succ]
      refine' wpAnyH_take (i := 21) (v := _) rfl (by kernel_rfl) (by kernel_rfl) (by kernel_rfl) (fun _ _ _ h => h) (Or.inl ⟨by rfl, ?ly22⟩) (by assumption) ?lrest22
      case ly22 =>
        intro w hSw
        unfold S14 at hSw
        go_simp
        try with_reducible rfl
      try simp only [Act.put, List.setIfInBounds_toArray, List.set_cons_zero, List.set_cons_succ, List.getElem_toArray, List.getElem_cons_zero, List.getElem_cons_succ]
      refine' wpAnyH_take (i := 22) (v := _) rfl (by kernel_rfl) (by kernel_rfl) (by kernel_rfl) (fun _ _ _ h => h) (Or.inl ⟨by rfl, ?ly23⟩) (by assumption) ?lrest23
      case ly23 =>
        intro w hSw
        unfold S14 at hSw
        go_simp
        try with_reducible rfl
      try simp only [Act.put, List.setIfInBounds_toArray, List.set_cons_zero, List.set_cons_succ, List.getElem_toArray, List.getElem_cons_zero, List.getElem_cons_succ]
      refine' wpAnyH_take (i := 23) (v := _) rfl (by kernel_rfl) (by kernel_rfl) (by kernel_rfl) (fun _ _ _ h => h) (Or.inl ⟨by rfl, ?ly24⟩) (by assumption) ?lrest24
      case ly24 =>
        intro w hSw
        unfold S14 at hSw
        go_simp
        try with_reducible rfl
      try simp only [Act.put, List.setIfInBounds_toArray, List.set_cons_zero, List.set_cons_succ, List.getElem_toArray, List.getElem_cons_zero, List.getElem_cons_succ]
      refine wpAnyH_ready (rs := [24]) (by kernel_rfl) (by simp) ?_
      refine AllReadyH.cons rfl (fun K hK => ?_) AllReadyH.nil
      go_simp
      refine (HWK.out _ hk.bel).mono ?_
      rintro r9 w9 ⟨rfl, gq⟩
      have hk := hk.step gq
      refine hK.out _ _ hk.S (fun hHeld => ?_)
      clear hK K
      try simp only [Act.put, List.setIfInBounds_toArray, List.set_cons_zero, List.set_cons_succ, List.getElem_toArray, List.getElem_cons_zero, List.getElem_cons_succ]
      refine' wpAnyH_take (i := 25) (v := _) rfl (by kernel_rfl) (by kernel_rfl) (by kernel_rfl) (fun _ _ _ h => h) (Or.inl ⟨by rfl, ?ly26⟩) (by assumption) ?lrest26
      case ly26 =>
        intro w hSw
        unfold S14 at hSw
        go_simp
        try with_reducible rfl
      try simp only [Act.put, List.setIfInBounds_toArray, List.set_cons_zero, List.set_cons_succ, List.getElem_toArray, List.getElem_cons_zero, List.getElem_cons_succ]
      refine' wpAnyH_take (i := 26) (v := _) rfl (by kernel_rfl) (by kernel_rfl) (by kernel_rfl) (fun _ _ _ h => h) (Or.inl ⟨by rfl, ?ly27⟩) (by assumption) ?lrest27
      case ly27 =>
        intro w hSw
        unfold S14 at hSw
        go_simp
        try with_reducible rfl
      try simp only [Act.put, List.setIfInBounds_toArray, List.set_cons_zero, List.set_cons_succ, List.getElem_toArray, List.getElem_cons_zero, List.getElem_cons_succ]
      refine wpAnyH_done (by kernel_rfl) ?_ _
      go_wp2_with fail
      go_ret
      exact ⟨rfl, hk.bel⟩
    · have hls := less_ne hab
      have hlt : (ah = bh ∧ al = bl) → False := by rintro ⟨rfl, rfl⟩; exact hab rfl
      generalize lessA ⟨false, ah, al⟩ ⟨false, bh, bl⟩ = L1 at l1 hls
      generalize lessA ⟨false, bh, bl⟩ ⟨false, ah, al⟩ = L2 at l2 hls
      have HL1 := Lib.hid l1
      have HL2 := Lib.hid l2
      clear l1 l2 hab
      have dj : ah ≠ bh ∨ (ah = bh ∧ al ≠ bl) := by
        rcases Nat.decEq ah bh with h | h
        · exact Or.inl h
        · exact Or.inr ⟨h, fun h' => hlt ⟨h, h'⟩⟩
      clear hlt
      rcases dj with dj | ⟨dj, dk⟩
      · have z1 : ((ah : Int) == (bh : Int)) = false := by simp; omega
        clear dj
        cases L1 with
        | false =>
          cases L2 with
          | false => exact absurd hls (by decide)
          | true =>
            clear hls
            refine wp_region_held_drew (S := S14 false w.heap.size (w.heap.size + 1) q r ah al bh bl r2 r3 r2 r3 NN) (by kernel_rfl) hk.S (fun hHeld => ?_)
            refine' wpAnyH_take (i := 0) (v := _) rfl (by kernel_rfl) (by kernel_rfl) (by kernel_rfl) (fun _ _ _ h => h) (Or.inl ⟨by rfl, ?ly28⟩) (by assumption) ?lrest28
            case ly28 =>
              intro w hSw
              unfold S14 at hSw
              go_simp
              try with_reducible rfl
            try simp only [Act.put, List.setIfInBounds_toArray, List.set_cons_zero, List.set_cons_succ, List.getElem_toArray, List.getElem_cons_zero, List.getElem_cons_succ]
            refine' wpAnyH_take (i := 1) (v := _) rfl (by kernel_rfl) (by kernel_rfl) (by kernel_rfl) (fun _ _ _ h => h) (Or.inl ⟨by rfl, ?ly29⟩) (by assumption) ?lrest29
            case ly29 =>
              intro w hSw
              unfold S14 at hSw
              go_simp
              try with_reducible rfl
            try simp only [Act.put, List.setIfInBounds_toArray, List.set_cons_zero, List.set_cons_succ, List.getElem_toArray, List.getElem_cons_zero, List.getElem_cons_succ]
            refine' wpAnyH_take (i := 3) (v := _) rfl (by kernel_rfl) (by kernel_rfl) (by kernel_rfl) (fun _ _ _ h => h) (Or.inl ⟨by rfl, ?ly30⟩) (by assumption) ?lrest30
            case ly30 =>
              intro w hSw
              unfold S14 at hSw
              go_simp
              try with_reducible rfl
            try simp only [Act.put, List.setIfInBounds_toArray, List.set_cons_zero, List.set_cons_succ, List.getElem_toArray, List.getElem_cons_zero, List.getElem_cons_succ]
            refine' wpAnyH_take (i := 4) (v := _) rfl (by kernel_rfl) (by kernel_rfl) (by kernel_rfl) (fun _ _ _ h => h) (Or.inl ⟨by rfl, ?ly31⟩) (by assumption) ?lrest31
            case ly31 =>
              intro w hSw
              unfold S14 at hSw
              go_simp
              try with_reducible rfl
            try simp only [Act.put, List.setIfInBounds_toArray, List.set_cons_zero, List.set_cons_succ, List.getElem_toArray, List.getElem_cons_zero, List.getElem_cons_succ]
            refine' wpAnyH_take (i := 5) (v := _) rfl (by kernel_rfl) (by kernel_rfl) (by kernel_rfl) (fun _ _ _ h => h) (Or.inl ⟨by rfl, ?ly32⟩) (by assumption) ?lrest32
            case ly32 =>
              intro w hSw
              unfold S14 at hSw
              go_simp
              try with_reducible rfl
            try simp only [Act.put, List.setIfInBounds_toArray, List.set_cons_zero, List.set_cons_succ, List.getElem_toArray, List.getElem_cons_zero, List.getElem_cons_succ]
            refine wpAnyH_ready (rs := [2]) (by kernel_rfl) (by simp) ?_
            refine AllReadyH.cons rfl (fun K hK => ?_) AllReadyH.nil
            go_simp
            refine (HG3.out _).mono ?_
            rintro r9 w9 ⟨rfl, gq⟩
            have hk := hk.step gq
            refine hK.out _ _ hk.S (fun hHeld => ?_)
            clear hK K
            try simp only [Act.put, List.setIfInBounds_toArray, List.set_cons_zero, List.set_cons_succ, List.getElem_toArray, List.getElem_cons_zero, List.getElem_cons_succ]
            refine' wpAnyH_take (i := 6) (v := _) rfl (by kernel_rfl) (by kernel_rfl) (by kernel_rfl) (fun _ _ _ h => h) (Or.inl ⟨by rfl, ?ly34⟩) (by assumption) ?lrest34
            case ly34 =>
              intro w hSw
              unfold S14 at hSw
              go_simp
              try with_reducible rfl
            try simp only [Act.put, List.setIfInBounds_toArray, List.set_cons_zero, List.set_cons_succ, List.getElem_toArray, List.getElem_cons_zero, List.getElem_cons_succ]
            refine' wpAnyH_take (i := 7) (v := _) rfl (by kernel_rfl) (by kernel_rfl) (by kernel_rfl) (fun _ _ _ h => h) (Or.inl ⟨by rfl, ?ly35⟩) (by assumption) ?lrest35
            case ly35 =>
              intro w hSw
              unfold S14 at hSw
              go_simp
              try with_reducible rfl
            try simp only [Act.put, List.setIfInBounds_toArray, List.set_cons_zero, List.set_cons_succ, List.getElem_toArray, List.getElem_cons_zero, List.getElem_cons_succ]
            refine' wpAnyH_take (i := 8) (v := _) rfl (by kernel_rfl) (by kernel_rfl) (by kernel_rfl) (fun _ _ _ h => h) (Or.inl ⟨by rfl, ?ly36⟩) (by assumption) ?lrest36
            case ly36 =>
              intro w hSw
              unfold S14 at hSw
              go_simp
              try with_reducible rfl
            try simp only [Act.put, List.setIfInBounds_toArray, List.set_cons_zero, List.set_cons_succ, List.getElem_toArray, List.getElem_cons_zero, List.getElem_cons_succ]
            refine' wpAnyH_take (i := 9) (v := _) rfl (by kernel_rfl) (by kernel_rfl) (by kernel_rfl) (fun _ _ _ h => h) (Or.inl ⟨by rfl, ?ly37⟩) (by assumption) ?lrest37
            case ly37 =>
              intro w hSw
              unfold S14 at hSw
              go_simp
              try with_reducible rfl
            try simp only [Act.put, List.setIfInBounds_toArray, List.set_cons_zero, List.set_cons_succ, List.getElem_toArray, List.getElem_cons_zero, List.getElem_cons_succ]
            refine' wpAnyH_take (i := 10) (v := _) rfl (by kernel_rfl) (by kernel_rfl) (by kernel_rfl) (fun _ _ _ h => h) (Or.inl ⟨by rfl, ?ly38⟩) (by assumption) ?lrest38
            case ly38 =>
              intro w hSw
              unfold S14 at hSw
              go_simp
              try with_reducible rfl
            try simp only [Act.put, List.setIfInBounds_toArray, List.set_cons_zero, List.set_cons_succ, List.getElem_toArray, List.getElem_cons_zero, List.getElem_cons_succ]
            refine' wpAnyH_take (i := 11) (v := _) rfl (by kernel_rfl) (by kernel_rfl) (by kernel_rfl) (fun _ _ _ h => h) (Or.inl ⟨by rfl, ?ly39⟩) (by assumption) ?lrest39
            case ly39 =>
              intro w hSw
              unfold S14 at hSw
              go_simp
              try with_reducible rfl
            try simp only [Act.put, List.setIfInBounds_toArray, List.set_cons_zero, List.set_cons_succ, List.getElem_toArray, List.getElem_cons_zero, List.getElem_cons_succ]
            refine' wpAnyH_take (i := 12) (v := _) rfl (by kernel_rfl) (by kernel_rfl) (by kernel_rfl) (fun _ _ _ h => h) (Or.inl ⟨by rfl, ?ly40⟩) (by assumption) ?lrest40
            case ly40 =>
              intro w hSw
              unfold S14 at hSw
              go_simp
              try with_reducible rfl
            try simp only [Act.put, List.setIfInBounds_toArray, List.set_cons_zero, List.set_cons_succ, List.getElem_toArray, List.getElem_cons_zero, List.getElem_cons_succ]
            refine wpAnyH_ready (rs := [13]) (by kernel_rfl) (by simp) ?_
            refine AllReadyH.cons rfl (fun K hK => ?_) AllReadyH.nil
            go_simp
            refine (HL1.out _).mono ?_
            rintro r9 w9 ⟨rfl, gq⟩
            have hk := hk.step gq
            refine hK.out _ _ hk.S (fun hHeld => ?_)
            clear hK K
            try simp only [Act.put, List.setIfInBounds_toArray, List.set_cons_zero, List.set_cons_succ, List.getElem_toArray, List.getElem_cons_zero, List.getElem_cons_succ]
            refine' wpAnyH_take (i := 14) (v := _) rfl (by kernel_rfl) (by kernel_rfl) (by kernel_rfl) (fun _ _ _ h => h) (Or.inl ⟨by rfl, ?ly42⟩) (by assumption) ?lrest42
            case ly42 =>
              intro w hSw
              unfold S14 at hSw
              go_simp
              try with_reducible rfl
            try simp only [Act.put, List.setIfInBounds_toArray, List.set_cons_zero, List.set_cons_succ, List.getElem_toArray, List.getElem_cons_zero, List.getElem_cons_succ]
            refine' wpAnyH_take (i := 15) (v := _) rfl (by kernel_rfl) (by kernel_rfl) (by kernel_rfl) (fun _ _ _ h => h) (Or.inl ⟨by rfl, ?ly43⟩) (by assumption) ?lrest43
            case ly43 =>
              intro w hSw
              unfold S14 at hSw
              go_simp
              try with_reducible rfl
            try simp only [Act.put, List.setIfInBounds_toArray, List.set_cons_zero, List.set_cons_succ, List.getElem_toArray, List.getElem_cons_zero, List.getElem_cons_succ]
            refine' wpAnyH_take (i := 16) (v := _) rfl (by kernel_rfl) (by kernel_rfl) (by kernel_rfl) (fun _ _ _ h => h) (Or.inl ⟨by rfl, ?ly44⟩) (by assumption) ?lrest44
            case ly44 =>
              intro w hSw
              unfold S14 at hSw
              go_simp
              try with_reducible rfl
            try simp only [Act.put, List.setIfInBounds_toArray, List.set_cons_zero, List.set_cons_succ, List.getElem_toArray, List.getElem_cons_zero, List.getElem_cons_succ]
            refine' wpAnyH_take (i := 17) (v := _) rfl (by kernel_rfl) (by kernel_rfl) (by kernel_rfl) (fun _ _ _ h => h) (Or.inl ⟨by rfl, ?ly45⟩) (by assumption) ?lrest45
            case ly45 =>
              intro w hSw
              unfold S14 at hSw
              go_simp
              try with_reducible rfl
            try simp only [Act.put, List.setIfInBounds_toArray, List.set_cons_zero, List.set_cons_succ, List.getElem_toArray, List.getElem_cons_zero, List.getElem_cons_succ]
            refine wpAnyH_ready (rs := [18]) (by kernel_rfl) (by simp) ?_
            refine AllReadyH.cons rfl (fun K hK => ?_) AllReadyH.nil
            go_simp
            refine (HL2.out _).mono ?_
            rintro r9 w9 ⟨rfl, gq⟩
            have hk := hk.step gq
            refine hK.out _ _ hk.S (fun hHeld => ?_)
            clear hK K
            try simp only [Act.put, List.setIfInBounds_toArray, List.set_cons_zero, List.set_cons_succ, List.getElem_toArray, List.getElem_cons_zero, List.getElem_cons_succ]
            refine' wpAnyH_take (i := 19) (v := _) rfl (by kernel_rfl) (by kernel_rfl) (by kernel_rfl) (fun _ _ _ h => h) (Or.inl ⟨by rfl, ?ly47⟩) (by assumption) ?lrest47
            case ly47 =>
              intro w hSw
              unfold S14 at hSw
              go_simp
              try with_reducible rfl
            try simp only [Act.put, List.setIfInBounds_toArray, List.set_cons_zero, List.set_cons_succ, List.getElem_toArray, List.getElem_cons_zero, List.getElem_cons_succ]
            refine' wpAnyH_take (i := 20) (v := _) rfl (by kernel_rfl) (by kernel_rfl) (by kernel_rfl) (fun _ _ _ h => h) (Or.inl ⟨by rfl, ?ly48⟩) (by assumption) ?lrest48
            case ly48 =>
              intro w hSw
              unfold S14 at hSw
              go_simp
              try with_reducible rfl
            try simp only [Act.put, List.setIfInBounds_toArray, List.set_cons_zero, List.set_cons_succ, List.getElem_toArray, List.getElem_cons_zero, List.getElem_cons_succ]
            refine' wpAnyH_take (i := 21) (v := _) rfl (by kernel_rfl) (by kernel_rfl) (by kernel_rfl) (fun _ _ _ h => h) (Or.inl ⟨by rfl, ?ly49⟩) (by assumption) ?lrest49
            case ly49 =>
              intro w hSw
              unfold S14 at hSw
              go_simp
              try with_reducible rfl
            try simp only [Act.put, List.setIfInBounds_toArray, List.set_cons_zero, List.set_cons_succ, List.getElem_toArray, List.getElem_cons_zero, List.getElem_cons_succ]
            refine' wpAnyH_take (i := 22) (v := _) rfl (by kernel_rfl) (by kernel_rfl) (by kernel_rfl) (fun _ _ _ h => h) (Or.inl ⟨by rfl, ?ly50⟩) (by assumption) ?lrest50
            case ly50 =>
              intro w hSw
              unfold S14 at hSw
              go_simp
              try with_reducible rfl
            try simp only [Act.put, List.setIfInBounds_toArray, List.set_cons_zero, List.set_cons_succ, List.getElem_toArray, List.getElem_cons_zero, List.getElem_cons_succ]
            refine' wpAnyH_take (i := 23) (v := _) rfl (by kernel_rfl) (by kernel_rfl) (by kernel_rfl) (fun _ _ _ h => h) (Or.inl ⟨by rfl, ?ly51⟩) (by assumption) ?lrest51
            case ly51 =>
              intro w hSw
              unfold S14 at hSw
              go_simp
              try with_reducible rfl
            try simp only [Act.put, List.setIfInBounds_toArray, List.set_cons_zero, List.set_cons_succ, List.getElem_toArray, List.getElem_cons_zero, List.getElem_cons_succ]
            refine wpAnyH_ready (rs := [24]) (by kernel_rfl) (by simp) ?_
            refine AllReadyH.cons rfl (fun K hK => ?_) AllReadyH.nil
            go_simp
            refine (HWK.out _ hk.bel).mono ?_
            rintro r9 w9 ⟨rfl, gq⟩
            have hk := hk.step gq
            refine hK.out _ _ hk.S (fun hHeld => ?_)
            clear hK K
            try simp only [Act.put, List.setIfInBounds_toArray, List.set_cons_zero, List.set_cons_succ, List.getElem_toArray, List.getElem_cons_zero, List.getElem_cons_succ]
            refine' wpAnyH_take (i := 25) (v := _) rfl (by kernel_rfl) (by kernel_rfl) (by kernel_rfl) (fun _ _ _ h => h) (Or.inl ⟨by rfl, ?ly53⟩) (by assumption) ?lrest53
            case ly53 =>
              intro w hSw
              unfold S14 at hSw
              go_simp
              try with_reducible rfl
            try simp only [Act.put, List.setIfInBounds_toArray, List.set_cons_zero, List.set_cons_succ, List.getElem_toArray, List.getElem_cons_zero, List.getElem_cons_succ]
            refine' wpAnyH_take (i := 26) (v := _) rfl (by kernel_rfl) (by kernel_rfl) (by kernel_rfl) (fun _ _ _ h => h) (Or.inl ⟨by rfl, ?ly54⟩) (by assumption) ?lrest54
            case ly54 =>
              intro w hSw
              unfold S14 at hSw
              go_simp
              try with_reducible rfl
            try simp only [Act.put, List.setIfInBounds_toArray, List.set_cons_zero, List.set_cons_succ, List.getElem_toArray, List.getElem_cons_zero, List.getElem_cons_succ]
            refine wpAnyH_done (by kernel_rfl) ?_ _
            go_wp2_with fail
            go_ret
            exact ⟨rfl, hk.bel⟩
        | true =>
          clear hls
          refine wp_region_held_drew (S := S14 false w.heap.size (w.heap.size + 1) q r ah al bh bl r2 r3 r2 r3 NN) (by kernel_rfl) hk.S (fun hHeld => ?_)
          refine' wpAnyH_take (i := 0) (v := _) rfl (by kernel_rfl) (by kernel_rfl) (by kernel_rfl) (fun _ _ _ h => h) (Or.inl ⟨by rfl, ?ly55⟩) (by assumption) ?lrest55
          case ly55 =>
            intro w hSw
            unfold S14 at hSw
            go_simp
            try with_reducible rfl
          try simp only [Act.put, List.setIfInBounds_toArray, List.set_cons_zero, List.set_cons_succ, List.getElem_toArray, List.getElem_cons_zero, List.getElem_cons_succ]
          refine' wpAnyH_take (i := 1) (v := _) rfl (by kernel_rfl) (by kernel_rfl) (by kernel_rfl) (fun _ _ _ h => h) (Or.inl ⟨by rfl, ?ly56⟩) (by assumption) ?lrest56
          case ly56 =>
            intro w hSw
            unfold S14 at hSw
            go_simp
            try with_reducible rfl
          try simp only [Act.put, List.setIfInBounds_toArray, List.set_cons_zero, List.set_cons_succ, List.getElem_toArray, List.getElem_cons_zero, List.getElem_cons_succ]
          refine' wpAnyH_take (i := 3) (v := _) rfl (by kernel_rfl) (by kernel_rfl) (by kernel_rfl) (fun _ _ _ h => h) (Or.inl ⟨by rfl, ?ly57⟩) (by assumption) ?lrest57
          case ly57 =>
            intro w hSw
            unfold S14 at hSw
            go_simp
            try with_reducible rfl
          try simp only [Act.put, List.setIfInBounds_toArray, List.set_cons_zero, List.set_cons_succ, List.getElem_toArray, List.getElem_cons_zero, List.getElem_cons_succ]
          refine' wpAnyH_take (i := 4) (v := _) rfl (by kernel_rfl) (by kernel_rfl) (by kernel_rfl) (fun _ _ _ h => h) (Or.inl ⟨by rfl, ?ly58⟩) (by assumption) ?lrest58
          case ly58 =>
            intro w hSw
            unfold S14 at hSw
            go_simp
            try with_reducible rfl
          try simp only [Act.put, List.setIfInBounds_toArray, List.set_cons_zero, List.set_cons_succ, List.getElem_toArray, List.getElem_cons_zero, List.getElem_cons_succ]
          refine' wpAnyH_take (i := 5) (v := _) rfl (by kernel_rfl) (by kernel_rfl) (by kernel_rfl) (fun _ _ _ h => h) (Or.inl ⟨by rfl, ?ly59⟩) (by assumption) ?lrest59
          case ly59 =>
            intro w hSw
            unfold S14 at hSw
            go_simp
            try with_reducible rfl
          try simp only [Act.put, List.setIfInBounds_toArray, List.set_cons_zero, List.set_cons_succ, List.getElem_toArray, List.getElem_cons_zero, List.getElem_cons_succ]
          refine wpAnyH_ready (rs := [2]) (by kernel_rfl) (by simp) ?_
          refine AllReadyH.cons rfl (fun K hK => ?_) AllReadyH.nil
          go_simp
          refine (HG3.out _).mono ?_
          rintro r9 w9 ⟨rfl, gq⟩
          have hk := hk.step gq
          refine hK.out _ _ hk.S (fun hHeld => ?_)
          clear hK K
          try simp only [Act.put, List.setIfInBounds_toArray, List.set_cons_zero, List.set_cons_succ, List.getElem_toArray, List.getElem_cons_zero, List.getElem_cons_succ]
          refine' wpAnyH_take (i := 6) (v := _) rfl (by kernel_rfl) (by kernel_rfl) (by kernel_rfl) (fun _ _ _ h => h) (Or.inl ⟨by rfl, ?ly61⟩) (by assumption) ?lrest61
          case ly61 =>
            intro w hSw
            unfold S14 at hSw
            go_simp
            try with_reducible rfl
          try simp only [Act.put, List.setIfInBounds_toArray, List.set_cons_zero, List.set_cons_succ, List.getElem_toArray, List.getElem_cons_zero, List.getElem_cons_succ]
          refine' wpAnyH_take (i := 7) (v := _) rfl (by kernel_rfl) (by kernel_rfl) (by kernel_rfl) (fun _ _ _ h => h) (Or.inl ⟨by rfl, ?ly62⟩) (by assumption) ?lrest62
          case ly62 =>
            intro w hSw
            unfold S14 at hSw
            go_simp
            try with_reducible rfl
          try simp only [Act.put, List.setIfInBounds_toArray, List.set_cons_zero, List.set_cons_succ, List.getElem_toArray, List.getElem_cons_zero, List.getElem_cons_succ]
          refine' wpAnyH_take (i := 8) (v := _) rfl (by kernel_rfl) (by kernel_rfl) (by kernel_rfl) (fun _ _ _ h => h) (Or.inl ⟨by rfl, ?ly63⟩) (by assumption) ?lrest63
          case ly63 =>
            intro w hSw
            unfold S14 at hSw
            go_simp
            try with_reducible rfl
          try simp only [Act.put, List.setIfInBounds_toArray, List.set_cons_zero, List.set_cons_succ, List.getElem_toArray, List.getElem_cons_zero, List.getElem_cons_succ]
          refine' wpAnyH_take (i := 9) (v := _) rfl (by kernel_rfl) (by kernel_rfl) (by kernel_rfl) (fun _ _ _ h => h) (Or.inl ⟨by rfl, ?ly64⟩) (by assumption) ?lrest64
          case ly64 =>
            intro w hSw
            unfold S14 at hSw
            go_simp
            try with_reducible rfl
          try simp only [Act.put, List.setIfInBounds_toArray, List.set_cons_zero, List.set_cons_succ, List.getElem_toArray, List.getElem_cons_zero, List.getElem_cons_succ]
          refine' wpAnyH_take (i := 10) (v := _) rfl (by kernel_rfl) (by kernel_rfl) (by kernel_rfl) (fun _ _ _ h => h) (Or.inl ⟨by rfl, ?ly65⟩) (by assumption) ?lrest65
          case ly65 =>
            intro w hSw
            unfold S14 at hSw
            go_simp
            try with_reducible rfl
          try simp only [Act.put, List.setIfInBounds_toArray, List.set_cons_zero, List.set_cons_succ, List.getElem_toArray, List.getElem_cons_zero, List.getElem_cons_succ]
          refine' wpAnyH_take (i := 11) (v := _) rfl (by kernel_rfl) (by kernel_rfl) (by kernel_rfl) (fun _ _ _ h => h) (Or.inl ⟨by rfl, ?ly66⟩) (by assumption) ?lrest66
          case ly66 =>
            intro w hSw
            unfold S14 at hSw
            go_simp
            try with_reducible rfl
          try simp only [Act.put, List.setIfInBounds_toArray, List.set_cons_zero, List.set_cons_succ, List.getElem_toArray, List.getElem_cons_zero, List.getElem_cons_succ]
          refine' wpAnyH_take (i := 12) (v := _) rfl (by kernel_rfl) (by kernel_rfl) (by kernel_rfl) (fun _ _ _ h => h) (Or.inl ⟨by rfl, ?ly67⟩) (by assumption) ?lrest67
          case ly67 =>
            intro w hSw
            unfold S14 at hSw
            go_simp
            try with_reducible rfl
          try simp only [Act.put, List.setIfInBounds_toArray, List.set_cons_zero, List.set_cons_succ, List.getElem_toArray, List.getElem_cons_zero, List.getElem_cons_succ]
          refine wpAnyH_ready (rs := [13]) (by kernel_rfl) (by simp) ?_
          refine AllReadyH.cons rfl (fun K hK => ?_) AllReadyH.nil
          go_simp
          refine (HL1.out _).mono ?_
          rintro r9 w9 ⟨rfl, gq⟩
          have hk := hk.step gq
          refine hK.out _ _ hk.S (fun hHeld => ?_)
          clear hK K
          try simp only [Act.put, List.setIfInBounds_toArray, List.set_cons_zero, List.set_cons_succ, List.getElem_toArray, List.getElem_cons_zero, List.getElem_cons_succ]
          refine' wpAnyH_take (i := 14) (v := _) rfl (by kernel_rfl) (by kernel_rfl) (by kernel_rfl) (fun _ _ _ h => h) (Or.inl ⟨by rfl, ?ly69⟩) (by assumption) ?lrest69
          case ly69 =>
            intro w hSw
            unfold S14 at hSw
            go_simp
            try with_reducible rfl
          try simp only [Act.put, List.setIfInBounds_toArray, List.set_cons_zero, List.set_cons_succ, List.getElem_toArray, List.getElem_cons_zero, List.getElem_cons_succ]
          refine' wpAnyH_take (i := 15) (v := _) rfl (by kernel_rfl) (by kernel_rfl) (by kernel_rfl) (fun _ _ _ h => h) (Or.inl ⟨by rfl, ?ly70⟩) (by assumption) ?lrest70
          case ly70 =>
            intro w hSw
            unfold S14 at hSw
            go_simp
            try with_reducible rfl
          try simp only [Act.put, List.setIfInBounds_toArray, List.set_cons_zero, List.set_cons_succ, List.getElem_toArray, List.getElem_cons_zero, List.getElem_cons_succ]
          refine' wpAnyH_take (i := 16) (v := undef) rfl (by kernel_rfl) (by kernel_rfl) (by kernel_rfl) (fun _ _ _ h => h) (Or.inr ⟨by rfl, rfl⟩) (by assumption) ?lrest71
          try simp only [Act.put, List.setIfInBounds_toArray, List.set_cons_zero, List.set_cons_succ, List.getElem_toArray, List.getElem_cons_zero, List.getElem_cons_succ]
          refine' wpAnyH_take (i := 17) (v := undef) rfl (by kernel_rfl) (by kernel_rfl) (by kernel_rfl) (fun _ _ _ h => h) (Or.inr ⟨by rfl, rfl⟩) (by assumption) ?lrest72
          try simp only [Act.put, List.setIfInBounds_toArray, List.set_cons_zero, List.set_cons_succ, List.getElem_toArray, List.getElem_cons_zero, List.getElem_cons_succ]
          refine' wpAnyH_take (i := 18) (v := undef) rfl (by kernel_rfl) (by kernel_rfl) (by kernel_rfl) (fun _ _ _ h => h) (Or.inr ⟨by rfl, rfl⟩) (by assumption) ?lrest73
          try simp only [Act.put, List.setIfInBounds_toArray, List.set_cons_zero, List.set_cons_succ, List.getElem_toArray, List.getElem_cons_zero, List.getElem_cons_succ]
          refine' wpAnyH_take (i := 19) (v := undef) rfl (by kernel_rfl) (by kernel_rfl) (by kernel_rfl) (fun _ _ _ h => h) (Or.inr ⟨by rfl, rfl⟩) (by assumption) ?lrest74
          try simp only [Act.put, List.setIfInBounds_toArray, List.set_cons_zero, List.set_cons_succ, List.getElem_toArray, List.getElem_cons_zero, List.getElem_cons_succ]
          refine' wpAnyH_take (i := 20) (v := _) rfl (by kernel_rfl) (by kernel_rfl) (by kernel_rfl) (fun _ _ _ h => h) (Or.inl ⟨by rfl, ?ly75⟩) (by assumption) ?lrest75
          case ly75 =>
            intro w hSw
            unfold S14 at hSw
            go_simp
            try with_reducible rfl
          try simp only [Act.put, List.setIfInBounds_toArray, List.set_cons_zero, List.set_cons_succ, List.getElem_toArray, List.getElem_cons_zero, List.getElem_cons_succ]
          refine' wpAnyH_take (i := 21) (v := _) rfl (by kernel_rfl) (by kernel_rfl) (by kernel_rfl) (fun _ _ _ h => h) (Or.inl ⟨by rfl, ?ly76⟩) (by assumption) ?lrest76
          case ly76 =>
            intro w hSw
            unfold S14 at hSw
            go_simp
            try with_reducible rfl
          try simp only [Act.put, List.setIfInBounds_toArray, List.set_cons_zero, List.set_cons_succ, List.getElem_toArray, List.getElem_cons_zero, List.getElem_cons_succ]
          refine' wpAnyH_take (i := 22) (v := _) rfl (by kernel_rfl) (by kernel_rfl) (by kernel_rfl) (fun _ _ _ h => h) (Or.inl ⟨by rfl, ?ly77⟩) (by assumption) ?lrest77
          case ly77 =>
            intro w hSw
            unfold S14 at hSw
            go_simp
            try with_reducible rfl
          try simp only [Act.put, List.setIfInBounds_toArray, List.set_cons_zero, List.set_cons_succ, List.getElem_toArray, List.getElem_cons_zero, List.getElem_cons_succ]
          refine' wpAnyH_take (i := 23) (v := _) rfl (by kernel_rfl) (by kernel_rfl) (by kernel_rfl) (fun _ _ _ h => h) (Or.inl ⟨by rfl, ?ly78⟩) (by assumption) ?lrest78
          case ly78 =>
            intro w hSw
            unfold S14 at hSw
            go_simp
            try with_reducible rfl
          try simp only [Act.put, List.setIfInBounds_toArray, List.set_cons_zero, List.set_cons_succ, List.getElem_toArray, List.getElem_cons_zero, List.getElem_cons_succ]
          refine wpAnyH_ready (rs := [24]) (by kernel_rfl) (by simp) ?_
          refine AllReadyH.cons rfl (fun K hK => ?_) AllReadyH.nil
          go_simp
          refine (HWK.out _ hk.bel).mono ?_
          rintro r9 w9 ⟨rfl, gq⟩
          have hk := hk.step gq
          refine hK.out _ _ hk.S (fun hHeld => ?_)
          clear hK K
          try simp only [Act.put, List.setIfInBounds_toArray, List.set_cons_zero, List.set_cons_succ, List.getElem_toArray, List.getElem_cons_zero, List.getElem_cons_succ]
          refine' wpAnyH_take (i := 25) (v := _) rfl (by kernel_rfl) (by kernel_rfl) (by kernel_rfl) (fun _ _ _ h => h) (Or.inl ⟨by rfl, ?ly80⟩) (by assumption) ?lrest80
          case ly80 =>
            intro w hSw
            unfold S14 at hSw
            go_simp
            try with_reducible rfl
          try simp only [Act.put, List.setIfInBounds_toArray, List.set_cons_zero, List.set_cons_succ, List.getElem_toArray, List.getElem_cons_zero, List.getElem_cons_succ]
          refine' wpAnyH_take (i := 26) (v := _) rfl (by kernel_rfl) (by kernel_rfl) (by kernel_rfl) (fun _ _ _ h => h) (Or.inl ⟨by rfl, ?ly81⟩) (by assumption) ?lrest81
          case ly81 =>
            intro w hSw
            unfold S14 at hSw
            go_simp
            try with_reducible rfl
          try simp only [Act.put, List.setIfInBounds_toArray, List.set_cons_zero, List.set_cons_succ, List.getElem_toArray, List.getElem_cons_zero, List.getElem_cons_succ]
          refine wpAnyH_done (by kernel_rfl) ?_ _
          go_wp2_with fail
          go_ret
          exact ⟨rfl, hk.bel⟩
      · subst dj
        have z2 : ((al : Int) == (bl : Int)) = false := by simp; omega
        clear dk
        cases L1 with
        | false =>
          cases L2 with
          | false => exact absurd hls (by decide)
          | true =>
            clear hls
            refine wp_region_held_drew (S := S14 false w.heap.size (w.heap.size + 1) q r ah al ah bl r2 r3 r2 r3 NN) (by kernel_rfl) hk.S (fun hHeld => ?_)
            refine' wpAnyH_take (i := 0) (v := _) rfl (by kernel_rfl) (by kernel_rfl) (by kernel_rfl) (fun _ _ _ h => h) (Or.inl ⟨by rfl, ?ly82⟩) (by assumption) ?lrest82
            case ly82 =>
              intro w hSw
              unfold S14 at hSw
              go_simp
              try with_reducible rfl
            try simp only [Act.put, List.setIfInBounds_toArray, List.set_cons_zero, List.set_cons_succ, List.getElem_toArray, List.getElem_cons_zero, List.getElem_cons_succ]
            refine' wpAnyH_take (i := 1) (v := _) rfl (by kernel_rfl) (by kernel_rfl) (by kernel_rfl) (fun _ _ _ h => h) (Or.inl ⟨by rfl, ?ly83⟩) (by assumption) ?lrest83
            case ly83 =>
              intro w hSw
              unfold S14 at hSw
              go_simp
              try with_reducible rfl
            try simp only [Act.put, List.setIfInBounds_toArray, List.set_cons_zero, List.set_cons_succ, List.getElem_toArray, List.getElem_cons_zero, List.getElem_cons_succ]
            refine' wpAnyH_take (i := 3) (v := _) rfl (by kernel_rfl) (by kernel_rfl) (by kernel_rfl) (fun _ _ _ h => h) (Or.inl ⟨by rfl, ?ly84⟩) (by assumption) ?lrest84
            case ly84 =>
              intro w hSw
              unfold S14 at hSw
              go_simp
              try with_reducible rfl
            try simp only [Act.put, List.setIfInBounds_toArray, List.set_cons_zero, List.set_cons_succ, List.getElem_toArray, List.getElem_cons_zero, List.getElem_cons_succ]
            refine' wpAnyH_take (i := 4) (v := _) rfl (by kernel_rfl) (by kernel_rfl) (by kernel_rfl) (fun _ _ _ h => h) (Or.inl ⟨by rfl, ?ly85⟩) (by assumption) ?lrest85
            case ly85 =>
              intro w hSw
              unfold S14 at hSw
              go_simp
              try with_reducible rfl
            try simp only [Act.put, List.setIfInBounds_toArray, List.set_cons_zero, List.set_cons_succ, List.getElem_toArray, List.getElem_cons_zero, List.getElem_cons_succ]
            refine' wpAnyH_take (i := 5) (v := _) rfl (by kernel_rfl) (by kernel_rfl) (by kernel_rfl) (fun _ _ _ h => h) (Or.inl ⟨by rfl, ?ly86⟩) (by assumption) ?lrest86
            case ly86 =>
              intro w hSw
              unfold S14 at hSw
              go_simp
              try with_reducible rfl
            try simp only [Act.put, List.setIfInBounds_toArray, List.set_cons_zero, List.set_cons_succ, List.getElem_toArray, List.getElem_cons_zero, List.getElem_cons_succ]
            refine wpAnyH_ready (rs := [2]) (by kernel_rfl) (by simp) ?_
            refine AllReadyH.cons rfl (fun K hK => ?_) AllReadyH.nil
            go_simp
            refine (HG3.out _).mono ?_
            rintro r9 w9 ⟨rfl, gq⟩
            have hk := hk.step gq
            refine hK.out _ _ hk.S (fun hHeld => ?_)
            clear hK K
            try simp only [Act.put, List.setIfInBounds_toArray, List.set_cons_zero, List.set_cons_succ, List.getElem_toArray, List.getElem_cons_zero, List.getElem_cons_succ]
            refine' wpAnyH_take (i := 6) (v := _) rfl (by kernel_rfl) (by kernel_rfl) (by kernel_rfl) (fun _ _ _ h => h) (Or.inl ⟨by rfl, ?ly88⟩) (by assumption) ?lrest88
            case ly88 =>
              intro w hSw
              unfold S14 at hSw
              go_simp
              try with_reducible rfl
            try simp only [Act.put, List.setIfInBounds_toArray, List.set_cons_zero, List.set_cons_succ, List.getElem_toArray, List.getElem_cons_zero, List.getElem_cons_succ]
            refine' wpAnyH_take (i := 7) (v := _) rfl (by kernel_rfl) (by kernel_rfl) (by kernel_rfl) (fun _ _ _ h => h) (Or.inl ⟨by rfl, ?ly89⟩) (by assumption) ?lrest89
            case ly89 =>
              intro w hSw
              unfold S14 at hSw
              go_simp
              try with_reducible rfl
            try simp only [Act.put, List.setIfInBounds_toArray, List.set_cons_zero, List.set_cons_succ, List.getElem_toArray, List.getElem_cons_zero, List.getElem_cons_succ]
            refine' wpAnyH_take (i := 8) (v := _) rfl (by kernel_rfl) (by kernel_rfl) (by kernel_rfl) (fun _ _ _ h => h) (Or.inl ⟨by rfl, ?ly90⟩) (by assumption) ?lrest90
            case ly90 =>
              intro w hSw
              unfold S14 at hSw
              go_simp
              try with_reducible rfl
            try simp only [Act.put, List.setIfInBounds_toArray, List.set_cons_zero, List.set_cons_succ, List.getElem_toArray, List.getElem_cons_zero, List.getElem_cons_succ]
            refine' wpAnyH_take (i := 9) (v := _) rfl (by kernel_rfl) (by kernel_rfl) (by kernel_rfl) (fun _ _ _ h => h) (Or.inl ⟨by rfl, ?ly91⟩) (by assumption) ?lrest91
            case ly91 =>
              intro w hSw
              unfold S14 at hSw
              go_simp
              try with_reducible rfl
            try simp only [Act.put, List.setIfInBounds_toArray, List.set_cons_zero, List.set_cons_succ, List.getElem_toArray, List.getElem_cons_zero, List.getElem_cons_succ]
            refine' wpAnyH_take (i := 10) (v := _) rfl (by kernel_rfl) (by kernel_rfl) (by kernel_rfl) (fun _ _ _ h => h) (Or.inl ⟨by rfl, ?ly92⟩) (by assumption) ?lrest92
            case ly92 =>
              intro w hSw
              unfold S14 at hSw
              go_simp
              try with_reducible rfl
            try simp only [Act.put, List.setIfInBounds_toArray, List.set_cons_zero, List.set_cons_succ, List.getElem_toArray, List.getElem_cons_zero, List.getElem_cons_succ]
            refine' wpAnyH_take (i := 11) (v := _) rfl (by kernel_rfl) (by kernel_rfl) (by kernel_rfl) (fun _ _ _ h => h) (Or.inl ⟨by rfl, ?ly93⟩) (by assumption) ?lrest93
            case ly93 =>
              intro w hSw
              unfold S14 at hSw
              go_simp
              try with_reducible rfl
            try simp only [Act.put, List.setIfInBounds_toArray, List.set_cons_zero, List.set_cons_succ, List.getElem_toArray, List.getElem_cons_zero, List.getElem_cons_succ]
            refine' wpAnyH_take (i := 12) (v := _) rfl (by kernel_rfl) (by kernel_rfl) (by kernel_rfl) (fun _ _ _ h => h) (Or.inl ⟨by rfl, ?ly94⟩) (by assumption) ?lrest94
            case ly94 =>
              intro w hSw
              unfold S14 at hSw
              go_simp
              try with_reducible rfl
            try simp only [Act.put, List.setIfInBounds_toArray, List.set_cons_zero, List.set_cons_succ, List.getElem_toArray, List.getElem_cons_zero, List.getElem_cons_succ]
            refine wpAnyH_ready (rs := [13]) (by kernel_rfl) (by simp) ?_
            refine AllReadyH.cons rfl (fun K hK => ?_) AllReadyH.nil
            go_simp
            refine (HL1.out _).mono ?_
            rintro r9 w9 ⟨rfl, gq⟩
            have hk := hk.step gq
            refine hK.out _ _ hk.S (fun hHeld => ?_)
            clear hK K
            try simp only [Act.put, List.setIfInBounds_toArray, List.set_cons_zero, List.set_cons_succ, List.getElem_toArray, List.getElem_cons_zero, List.getElem_cons_succ]
            refine' wpAnyH_take (i := 14) (v := _) rfl (by kernel_rfl) (by kernel_rfl) (by kernel_rfl) (fun _ _ _ h => h) (Or.inl ⟨by rfl, ?ly96⟩) (by assumption) ?lrest96
            case ly96 =>
              intro w hSw
              unfold S14 at hSw
              go_simp
              try with_reducible rfl
            try simp only [Act.put, List.setIfInBounds_toArray, List.set_cons_zero, List.set_cons_succ, List.getElem_toArray, List.getElem_cons_zero, List.getElem_cons_succ]
            refine' wpAnyH_take (i := 15) (v := _) rfl (by kernel_rfl) (by kernel_rfl) (by kernel_rfl) (fun _ _ _ h => h) (Or.inl ⟨by rfl, ?ly97⟩) (by assumption) ?lrest97
            case ly97 =>
              intro w hSw
              unfold S14 at hSw
              go_simp
              try with_reducible rfl
            try simp only [Act.put, List.setIfInBounds_toArray, List.set_cons_zero, List.set_cons_succ, List.getElem_toArray, List.getElem_cons_zero, List.getElem_cons_succ]
            refine' wpAnyH_take (i := 16) (v := _) rfl (by kernel_rfl) (by kernel_rfl) (by kernel_rfl) (fun _ _ _ h => h) (Or.inl ⟨by rfl, ?ly98⟩) (by assumption) ?lrest98
            case ly98 =>
              intro w hSw
              unfold S14 at hSw
              go_simp
              try with_reducible rfl
            try simp only [Act.put, List.setIfInBounds_toArray, List.set_cons_zero, List.set_cons_succ, List.getElem_toArray, List.getElem_cons_zero, List.getElem_cons_succ]
            refine' wpAnyH_take (i := 17) (v := _) rfl (by kernel_rfl) (by kernel_rfl) (by kernel_rfl) (fun _ _ _ h => h) (Or.inl ⟨by rfl, ?ly99⟩) (by assumption) ?lrest99
            case ly99 =>
              intro w hSw
              unfold S14 at hSw
              go_simp
              try with_reducible rfl
            try simp only [Act.put, List.setIfInBounds_toArray, List.set_cons_zero, List.set_cons_succ, List.getElem_toArray, List.getElem_cons_zero, List.getElem_cons_succ]
            refine wpAnyH_ready (rs := [18]) (by kernel_rfl) (by simp) ?_
            refine AllReadyH.cons rfl (fun K hK => ?_) AllReadyH.nil
            go_simp
            refine (HL2.out _).mono ?_
            rintro r9 w9 ⟨rfl, gq⟩
            have hk := hk.step gq
            refine hK.out _ _ hk.S (fun hHeld => ?_)
            clear hK K
            try simp only [Act.put, List.setIfInBounds_toArray, List.set_cons_zero, List.set_cons_succ, List.getElem_toArray, List.getElem_cons_zero, List.getElem_cons_succ]
            refine' wpAnyH_take (i := 19) (v := _) rfl (by kernel_rfl) (by kernel_rfl) (by kernel_rfl) (fun _ _ _ h => h) (Or.inl ⟨by rfl, ?ly101⟩) (by assumption) ?lrest101
            case ly101 =>
              intro w hSw
              unfold S14 at hSw
              go_simp
              try with_reducible rfl
            try simp only [Act.put, List.setIfInBounds_toArray, List.set_cons_zero, List.set_cons_succ, List.getElem_toArray, List.getElem_cons_zero, List.getElem_cons_succ]
            refine' wpAnyH_take (i := 20) (v := _) rfl (by kernel_rfl) (by kernel_rfl) (by kernel_rfl) (fun _ _ _ h => h) (Or.inl ⟨by rfl, ?ly102⟩) (by assumption) ?lrest102
            case ly102 =>
              intro w hSw
              unfold S14 at hSw
              go_simp
              try with_reducible rfl
            try simp only [Act.put, List.setIfInBounds_toArray, List.set_cons_zero, List.set_cons_succ, List.getElem_toArray, List.getElem_cons_zero, List.getElem_cons_succ]
            refine' wpAnyH_take (i := 21) (v := _) rfl (by kernel_rfl) (by kernel_rfl) (by kernel_rfl) (fun _ _ _ h => h) (Or.inl ⟨by rfl, ?ly103⟩) (by assumption) ?lrest103
            case ly103 =>
              intro w hSw
              unfold S14 at hSw
              go_simp
              try with_reducible rfl
            try simp only [Act.put, List.setIfInBounds_toArray, List.set_cons_zero, List.set_cons_succ, List.getElem_toArray, List.getElem_cons_zero, List.getElem_cons_succ]
            refine' wpAnyH_take (i := 22) (v := _) rfl (by kernel_rfl) (by kernel_rfl) (by kernel_rfl) (fun _ _ _ h => h) (Or.inl ⟨by rfl, ?ly104⟩) (by assumption) ?lrest104
            case ly104 =>
              intro w hSw
              unfold S14 at hSw
              go_simp
              try with_reducible rfl
            try simp only [Act.put, List.setIfInBounds_toArray, List.set_cons_zero, List.set_cons_succ, List.getElem_toArray, List.getElem_cons_zero, List.getElem_cons_succ]
            refine' wpAnyH_take (i := 23) (v := _) rfl (by kernel_rfl) (by kernel_rfl) (by kernel_rfl) (fun _ _ _ h => h) (Or.inl ⟨by rfl, ?ly105⟩) (by assumption) ?lrest105
            case ly105 =>
              intro w hSw
              unfold S14 at hSw
              go_simp
              try with_reducible rfl
            try simp only [Act.put, List.setIfInBounds_toArray, List.set_cons_zero, List.set_cons_succ, List.getElem_toArray, List.getElem_cons_zero, List.getElem_cons_succ]
            refine wpAnyH_ready (rs := [24]) (by kernel_rfl) (by simp) ?_
            refine AllReadyH.cons rfl (fun K hK => ?_) AllReadyH.nil
            go_simp
            refine (HWK.out _ hk.bel).mono ?_
            rintro r9 w9 ⟨rfl, gq⟩
            have hk := hk.step gq
            refine hK.out _ _ hk.S (fun hHeld => ?_)
            clear hK K
            try simp only [Act.put, List.setIfInBounds_toArray, List.set_cons_zero, List.set_cons_succ, List.getElem_toArray, List.getElem_cons_zero, List.getElem_cons_succ]
            refine' wpAnyH_take (i := 25) (v := _) rfl (by kernel_rfl) (by kernel_rfl) (by kernel_rfl) (fun _ _ _ h => h) (Or.inl ⟨by rfl, ?ly107⟩) (by assumption) ?lrest107
            case ly107 =>
              intro w hSw
              unfold S14 at hSw
              go_simp
              try with_reducible rfl
            try simp only [Act.put, List.setIfInBounds_toArray, List.set_cons_zero, List.set_cons_succ, List.getElem_toArray, List.getElem_cons_zero, List.getElem_cons_succ]
            refine' wpAnyH_take (i := 26) (v := _) rfl (by kernel_rfl) (by kernel_rfl) (by kernel_rfl) (fun _ _ _ h => h) (Or.inl ⟨by rfl, ?ly108⟩) (by assumption) ?lrest108
            case ly108 =>
              intro w hSw
              unfold S14 at hSw
              go_simp
              try with_reducible rfl
            try simp only [Act.put, List.setIfInBounds_toArray, List.set_cons_zero, List.set_cons_succ, List.getElem_toArray, List.getElem_cons_zero, List.getElem_cons_succ]
            refine wpAnyH_done (by kernel_rfl) ?_ _
            go_wp2_with fail
            go_ret
            exact ⟨rfl, hk.bel⟩
        | true =>
          clear hls
          refine wp_region_held_drew (S := S14 false w.heap.size (w.heap.size + 1) q r ah al ah bl r2 r3 r2 r3 NN) (by kernel_rfl) hk.S (fun hHeld => ?_)
          refine' wpAnyH_take (i := 0) (v := _) rfl (by kernel_rfl) (by kernel_rfl) (by kernel_rfl) (fun _ _ _ h => h) (Or.inl ⟨by rfl, ?ly109⟩) (by assumption) ?lrest109
          case ly109 =>
            intro w hSw
            unfold S14 at hSw
            go_simp
            try with_reducible rfl
          try simp only [Act.put, List.setIfInBounds_toArray, List.set_cons_zero, List.set_cons_succ, List.getElem_toArray, List.getElem_cons_zero, List.getElem_cons_succ]
          refine' wpAnyH_take (i := 1) (v := _) rfl (by kernel_rfl) (by kernel_rfl) (by kernel_rfl) (fun _ _ _ h => h) (Or.inl ⟨by rfl, ?ly110⟩) (by assumption) ?lrest110
          case ly110 =>
            intro w hSw
            unfold S14 at hSw
            go_simp
            try with_reducible rfl
          try simp only [Act.put, List.setIfInBounds_toArray, List.set_cons_zero, List.set_cons_succ, List.getElem_toArray, List.getElem_cons_zero, List.getElem_cons_succ]
          refine' wpAnyH_take (i := 3) (v := _) rfl (by kernel_rfl) (by kernel_rfl) (by kernel_rfl) (fun _ _ _ h => h) (Or.inl ⟨by rfl, ?ly111⟩) (by assumption) ?lrest111
          case ly111 =>
            intro w hSw
            unfold S14 at hSw
            go_simp
            try with_reducible rfl
          try simp only [Act.put, List.setIfInBounds_toArray, List.set_cons_zero, List.set_cons_succ, List.getElem_toArray, List.getElem_cons_zero, List.getElem_cons_succ]
          refine' wpAnyH_take (i := 4) (v := _) rfl (by kernel_rfl) (by kernel_rfl) (by kernel_rfl) (fun _ _ _ h => h) (Or.inl ⟨by rfl, ?ly112⟩) (by assumption) ?lrest112
          case ly112 =>
            intro w hSw
            unfold S14 at hSw
            go_simp
            try with_reducible rfl
          try simp only [Act.put, List.setIfInBounds_toArray, List.set_cons_zero, List.set_cons_succ, List.getElem_toArray, List.getElem_cons_zero, List.getElem_cons_succ]
          refine' wpAnyH_take (i := 5) (v := _) rfl (by kernel_rfl) (by kernel_rfl) (by kernel_rfl) (fun _ _ _ h => h) (Or.inl ⟨by rfl, ?ly113⟩) (by assumption) ?lrest113
          case ly113 =>
            intro w hSw
            unfold S14 at hSw
            go_simp
            try with_reducible rfl
          try simp only [Act.put, List.setIfInBounds_toArray, List.set_cons_zero, List.set_cons_succ, List.getElem_toArray, List.getElem_cons_zero, List.getElem_cons_succ]
          refine wpAnyH_ready (rs := [2]) (by kernel_rfl) (by simp) ?_
          refine AllReadyH.cons rfl (fun K hK => ?_) AllReadyH.nil
          go_simp
          refine (HG3.out _).mono ?_
          rintro r9 w9 ⟨rfl, gq⟩
          have hk := hk.step gq
          refine hK.out _ _ hk.S (fun hHeld => ?_)
          clear hK K
          try simp only [Act.put, List.setIfInBounds_toArray, List.set_cons_zero, List.set_cons_succ, List.getElem_toArray, List.getElem_cons_zero, List.getElem_cons_succ]
          refine' wpAnyH_take (i := 6) (v := _) rfl (by kernel_rfl) (by kernel_rfl) (by kernel_rfl) (fun _ _ _ h => h) (Or.inl ⟨by rfl, ?ly115⟩) (by assumption) ?lrest115
          case ly115 =>
            intro w hSw
            unfold S14 at hSw
            go_simp
            try with_reducible rfl
          try simp only [Act.put, List.setIfInBounds_toArray, List.set_cons_zero, List.set_cons_succ, List.getElem_toArray, List.getElem_cons_zero, List.getElem_cons_succ]
          refine' wpAnyH_take (i := 7) (v := _) rfl (by kernel_rfl) (by kernel_rfl) (by kernel_rfl) (fun _ _ _ h => h) (Or.inl ⟨by rfl, ?ly116⟩) (by assumption) ?lrest116
          case ly116 =>
            intro w hSw
            unfold S14 at hSw
            go_simp
            try with_reducible rfl
          try simp only [Act.put, List.setIfInBounds_toArray, List.set_cons_zero, List.set_cons_succ, List.getElem_toArray, List.getElem_cons_zero, List.getElem_cons_succ]
          refine' wpAnyH_take (i := 8) (v := _) rfl (by kernel_rfl) (by kernel_rfl) (by kernel_rfl) (fun _ _ _ h => h) (Or.inl ⟨by rfl, ?ly117⟩) (by assumption) ?lrest117
          case ly117 =>
            intro w hSw
            unfold S14 at hSw
            go_simp
            try with_reducible rfl
          try simp only [Act.put, List.setIfInBounds_toArray, List.set_cons_zero, List.set_cons_succ, List.getElem_toArray, List.getElem_cons_zero, List.getElem_cons_succ]
          refine' wpAnyH_take (i := 9) (v := _) rfl (by kernel_rfl) (by kernel_rfl) (by kernel_rfl) (fun _ _ _ h => h) (Or.inl ⟨by rfl, ?ly118⟩) (by assumption) ?lrest118
          case ly118 =>
            intro w hSw
            unfold S14 at hSw
            go_simp
            try with_reducible rfl
          try simp only [Act.put, List.setIfInBounds_toArray, List.set_cons_zero, List.set_cons_succ, List.getElem_toArray, List.getElem_cons_zero, List.getElem_cons_succ]
          refine' wpAnyH_take (i := 10) (v := _) rfl (by kernel_rfl) (by kernel_rfl) (by kernel_rfl) (fun _ _ _ h => h) (Or.inl ⟨by rfl, ?ly119⟩) (by assumption) ?lrest119
          case ly119 =>
            intro w hSw
            unfold S14 at hSw
            go_simp
            try with_reducible rfl
          try simp only [Act.put, List.setIfInBounds_toArray, List.set_cons_zero, List.set_cons_succ, List.getElem_toArray, List.getElem_cons_zero, List.getElem_cons_succ]
          refine' wpAnyH_take (i := 11) (v := _) rfl (by kernel_rfl) (by kernel_rfl) (by kernel_rfl) (fun _ _ _ h => h) (Or.inl ⟨by rfl, ?ly120⟩) (by assumption) ?lrest120
          case ly120 =>
            intro w hSw
            unfold S14 at hSw
            go_simp
            try with_reducible rfl
          try simp only [Act.put, List.setIfInBounds_toArray, List.set_cons_zero, List.set_cons_succ, List.getElem_toArray, List.getElem_cons_zero, List.getElem_cons_succ]
          refine' wpAnyH_take (i := 12) (v := _) rfl (by kernel_rfl) (by kernel_rfl) (by kernel_rfl) (fun _ _ _ h => h) (Or.inl ⟨by rfl, ?ly121⟩) (by assumption) ?lrest121
          case ly121 =>
            intro w hSw
            unfold S14 at hSw
            go_simp
            try with_reducible rfl
          try simp only [Act.put, List.setIfInBounds_toArray, List.set_cons_zero, List.set_cons_succ, List.getElem_toArray, List.getElem_cons_zero, List.getElem_cons_succ]
          refine wpAnyH_ready (rs := [13]) (by kernel_rfl) (by simp) ?_
          refine AllReadyH.cons rfl (fun K hK => ?_) AllReadyH.nil
          go_simp
          refine (HL1.out _).mono ?_
          rintro r9 w9 ⟨rfl, gq⟩
          have hk := hk.step gq
          refine hK.out _ _ hk.S (fun hHeld => ?_)
          clear hK K
          try simp only [Act.put, List.setIfInBounds_toArray, List.set_cons_zero, List.set_cons_succ, List.getElem_toArray, List.getElem_cons_zero, List.getElem_cons_succ]
          refine' wpAnyH_take (i := 14) (v := _) rfl (by kernel_rfl) (by kernel_rfl) (by kernel_rfl) (fun _ _ _ h => h) (Or.inl ⟨by rfl, ?ly123⟩) (by assumption) ?lrest123
          case ly123 =>
            intro w hSw
            unfold S14 at hSw
            go_simp
            try with_reducible rfl
          try simp only [Act.put, List.setIfInBounds_toArray, List.set_cons_zero, List.set_cons_succ, List.getElem_toArray, List.getElem_cons_zero, List.getElem_cons_succ]
          refine' wpAnyH_take (i := 15) (v := _) rfl (by kernel_rfl) (by kernel_rfl) (by kernel_rfl) (fun _ _ _ h => h) (Or.inl ⟨by rfl, ?ly124⟩) (by assumption) ?lrest124
          case ly124 =>
            intro w hSw
            unfold S14 at hSw
            go_simp
            try with_reducible rfl
          try simp only [Act.put, List.setIfInBounds_toArray, List.set_cons_zero, List.set_cons_succ, List.getElem_toArray, List.getElem_cons_zero, List.getElem_cons_succ]
          refine' wpAnyH_take (i := 16) (v := undef) rfl (by kernel_rfl) (by kernel_rfl) (by kernel_rfl) (fun _ _ _ h => h) (Or.inr ⟨by rfl, rfl⟩) (by assumption) ?lrest125
          try simp only [Act.put, List.setIfInBounds_toArray, List.set_cons_zero, List.set_cons_succ, List.getElem_toArray, List.getElem_cons_zero, List.getElem_cons_succ]
          refine' wpAnyH_take (i := 17) (v := undef) rfl (by kernel_rfl) (by kernel_rfl) (by kernel_rfl) (fun _ _ _ h => h) (Or.inr ⟨by rfl, rfl⟩) (by assumption) ?lrest126
          try simp only [Act.put, List.setIfInBounds_toArray, List.set_cons_zero, List.set_cons_succ, List.getElem_toArray, List.getElem_cons_zero, List.getElem_cons_succ]
          refine' wpAnyH_take (i := 18) (v := undef) rfl (by kernel_rfl) (by kernel_rfl) (by kernel_rfl) (fun _ _ _ h => h) (Or.inr ⟨by rfl, rfl⟩) (by assumption) ?lrest127
          try simp only [Act.put, List.setIfInBounds_toArray, List.set_cons_zero, List.set_cons_succ, List.getElem_toArray, List.getElem_cons_zero, List.getElem_cons_succ]
          refine' wpAnyH_take (i := 19) (v := undef) rfl (by kernel_rfl) (by kernel_rfl) (by kernel_rfl) (fun _ _ _ h => h) (Or.inr ⟨by rfl, rfl⟩) (by assumption) ?lrest128
          try simp only [Act.put, List.setIfInBounds_toArray, List.set_cons_zero, List.set_cons_succ, List.getElem_toArray, List.getElem_cons_zero, List.getElem_cons_succ]
          refine' wpAnyH_take (i := 20) (v := _) rfl (by kernel_rfl) (by kernel_rfl) (by kernel_rfl) (fun _ _ _ h => h) (Or.inl ⟨by rfl, ?ly129⟩) (by assumption) ?lrest129
          case ly129 =>
            intro w hSw
            unfold S14 at hSw
            go_simp
            try with_reducible rfl
          try simp only [Act.put, List.setIfInBounds_toArray, List.set_cons_zero, List.set_cons_succ, List.getElem_toArray, List.getElem_cons_zero, List.getElem_cons_succ]
          refine' wpAnyH_take (i := 21) (v := _) rfl (by kernel_rfl) (by kernel_rfl) (by kernel_rfl) (fun _ _ _ h => h) (Or.inl ⟨by rfl, ?ly130⟩) (by assumption) ?lrest130
          case ly130 =>
            intro w hSw
            unfold S14 at hSw
            go_simp
            try with_reducible rfl
          try simp only [Act.put, List.setIfInBounds_toArray, List.set_cons_zero, List.set_cons_succ, List.getElem_toArray, List.getElem_cons_zero, List.getElem_cons_succ]
          refine' wpAnyH_take (i := 22) (v := _) rfl (by kernel_rfl) (by kernel_rfl) (by kernel_rfl) (fun _ _ _ h => h) (Or.inl ⟨by rfl, ?ly131⟩) (by assumption) ?lrest131
          case ly131 =>
            intro w hSw
            unfold S14 at hSw
            go_simp
            try with_reducible rfl
          try simp only [Act.put, List.setIfInBounds_toArray, List.set_cons_zero, List.set_cons_succ, List.getElem_toArray, List.getElem_cons_zero, List.getElem_cons_succ]
          refine' wpAnyH_take (i := 23) (v := _) rfl (by kernel_rfl) (by kernel_rfl) (by kernel_rfl) (fun _ _ _ h => h) (Or.inl ⟨by rfl, ?ly132⟩) (by assumption) ?lrest132
          case ly132 =>
            intro w hSw
            unfold S14 at hSw
            go_simp
            try with_reducible rfl
          try simp only [Act.put, List.setIfInBounds_toArray, List.set_cons_zero, List.set_cons_succ, List.getElem_toArray, List.getElem_cons_zero, List.getElem_cons_succ]
          refine wpAnyH_ready (rs := [24]) (by kernel_rfl) (by simp) ?_
          refine AllReadyH.cons rfl (fun K hK => ?_) AllReadyH.nil
          go_simp
          refine (HWK.out _ hk.bel).mono ?_
          rintro r9 w9 ⟨rfl, gq⟩
          have hk := hk.step gq
          refine hK.out _ _ hk.S (fun hHeld => ?_)
          clear hK K
          try simp only [Act.put, List.setIfInBounds_toArray, List.set_cons_zero, List.set_cons_succ, List.getElem_toArray, List.getElem_cons_zero, List.getElem_cons_succ]
          refine' wpAnyH_take (i := 25) (v := _) rfl (by kernel_rfl) (by kernel_rfl) (by kernel_rfl) (fun _ _ _ h => h) (Or.inl ⟨by rfl, ?ly134⟩) (by assumption) ?lrest134
          case ly134 =>
            intro w hSw
            unfold S14 at hSw
            go_simp
            try with_reducible rfl
          try simp only [Act.put, List.setIfInBounds_toArray, List.set_cons_zero, List.set_cons_succ, List.getElem_toArray, List.getElem_cons_zero, List.getElem_cons_succ]
          refine' wpAnyH_take (i := 26) (v := _) rfl (by kernel_rfl) (by kernel_rfl) (by kernel_rfl) (fun _ _ _ h => h) (Or.inl ⟨by rfl, ?ly135⟩) (by assumption) ?lrest135
          case ly135 =>
            intro w hSw
            unfold S14 at hSw
            go_simp
            try with_reducible rfl
          try simp only [Act.put, List.setIfInBounds_toArray, List.set_cons_zero, List.set_cons_succ, List.getElem_toArray, List.getElem_cons_zero, List.getElem_cons_succ]
          refine wpAnyH_done (by kernel_rfl) ?_ _
          go_wp2_with fail
          go_ret
          exact ⟨rfl, hk.bel⟩
  · have hqr : (r2 = q2 ∧ r3 = q3) → False := by rintro ⟨rfl, rfl⟩; exact hsame (i7.1 rfl)
    have hab : Ad.mk false ah al ≠ Ad.mk false bh bl := by
      intro e
      injection e with _ e2 e3
      subst e2 e3
      exact hsame rfl
    rw [decide_eq_false hsame] at g3
    have HG3 := Lib.hid g3
    clear g3 g4 hsame i7
    have a0 := ha.cell 0; have a1 := ha.cell 1; have a2 := ha.cell 2; have b0 := hb.cell 0; have b1 := hb.cell 1; have b2 := hb.cell 2; have cp0 := hp.cell 0; have cp1 := hp.cell 1; have cp2 := hp.cell 2; have cp3 := hp.cell 3; have cq0 := hq.cell 0; have cq1 := hq.cell 1; have cq2 := hq.cell 2; have cq3 := hq.cell 3; have cr0 := hr.cell 0; have cr1 := hr.cell 1; have cr2 := hr.cell 2; have cr3 := hr.cell 3; simp at a0 a1 a2 b0 b1 b2 cp0 cp1 cp2 cp3 cq0 cq1 cq2 cq3 cr0 cr1 cr2 cr3; clear oka okb hza hM' hN' hMN hNN
    go_upto_region 14 with (first | (go_at_call 22; (with_reducible refine (HM1.out _).mono ?_); rintro r9 w9 ⟨rfl, gq⟩; have hv := after hv gq; have ha := ha.below gq ha.lt; have hb := hb.below gq hb.lt; have hp := hp.below gq hp.lt; have hq := hq.below gq hq.lt; have hr := hr.below gq hr.lt; clear gq; have a0 := ha.cell 0; have a1 := ha.cell 1; have a2 := ha.cell 2; have b0 := hb.cell 0; have b1 := hb.cell 1; have b2 := hb.cell 2; have cp0 := hp.cell 0; have cp1 := hp.cell 1; have cp2 := hp.cell 2; have cp3 := hp.cell 3; have cq0 := hq.cell 0; have cq1 := hq.cell 1; have cq2 := hq.cell 2; have cq3 := hq.cell 3; have cr0 := hr.cell 0; have cr1 := hr.cell 1; have cr2 := hr.cell 2; have cr3 := hr.cell 3; simp at a0 a1 a2 b0 b1 b2 cp0 cp1 cp2 cp3 cq0 cq1 cq2 cq3 cr0 cr1 cr2 cr3) | (go_at_call 22; (with_reducible refine (HM2.out _).mono ?_); rintro r9 w9 ⟨rfl, gq⟩; have hv := after hv gq; have ha := ha.below gq ha.lt; have hb := hb.below gq hb.lt; have hp := hp.below gq hp.lt; have hq := hq.below gq hq.lt; have hr := hr.below gq hr.lt; clear gq; have a0 := ha.cell 0; have a1 := ha.cell 1; have a2 := ha.cell 2; have b0 := hb.cell 0; have b1 := hb.cell 1; have b2 := hb.cell 2; have cp0 := hp.cell 0; have cp1 := hp.cell 1; have cp2 := hp.cell 2; have cp3 := hp.cell 3; have cq0 := hq.cell 0; have cq1 := hq.cell 1; have cq2 := hq.cell 2; have cq3 := hq.cell 3; have cr0 := hr.cell 0; have cr1 := hr.cell 1; have cr2 := hr.cell 2; have cr3 := hr.cell 3; simp at a0 a1 a2 b0 b1 b2 cp0 cp1 cp2 cp3 cq0 cq1 cq2 cq3 cr0 cr1 cr2 cr3) | (go_at_call 28; (with_reducible refine (HG1.out _).mono ?_); rintro r9 w9 ⟨rfl, gq⟩; have hv := after hv gq; have ha := ha.below gq ha.lt; have hb := hb.below gq hb.lt; have hp := hp.below gq hp.lt; have hq := hq.below gq hq.lt; have hr := hr.below gq hr.lt; clear gq; have a0 := ha.cell 0; have a1 := ha.cell 1; have a2 := ha.cell 2; have b0 := hb.cell 0; have b1 := hb.cell 1; have b2 := hb.cell 2; have cp0 := hp.cell 0; have cp1 := hp.cell 1; have cp2 := hp.cell 2; have cp3 := hp.cell 3; have cq0 := hq.cell 0; have cq1 := hq.cell 1; have cq2 := hq.cell 2; have cq3 := hq.cell 3; have cr0 := hr.cell 0; have cr1 := hr.cell 1; have cr2 := hr.cell 2; have cr3 := hr.cell 3; simp at a0 a1 a2 b0 b1 b2 cp0 cp1 cp2 cp3 cq0 cq1 cq2 cq3 cr0 cr1 cr2 cr3) | (go_at_call 28; (with_reducible refine (HG2.out _).mono ?_); rintro r9 w9 ⟨rfl, gq⟩; have hv := after hv gq; have ha := ha.below gq ha.lt; have hb := hb.below gq hb.lt; have hp := hp.below gq hp.lt; have hq := hq.below gq hq.lt; have hr := hr.below gq hr.lt; clear gq; have a0 := ha.cell 0; have a1 := ha.cell 1; have a2 := ha.cell 2; have b0 := hb.cell 0; have b1 := hb.cell 1; have b2 := hb.cell 2; have cp0 := hp.cell 0; have cp1 := hp.cell 1; have cp2 := hp.cell 2; have cp3 := hp.cell 3; have cq0 := hq.cell 0; have cq1 := hq.cell 1; have cq2 := hq.cell 2; have cq3 := hq.cell 3; have cr0 := hr.cell 0; have cr1 := hr.cell 1; have cr2 := hr.cell 2; have cr3 := hr.cell 3; simp at a0 a1 a2 b0 b1 b2 cp0 cp1 cp2 cp3 cq0 cq1 cq2 cq3 cr0 cr1 cr2 cr3) | (go_at_call 28; (with_reducible refine (HG3.out _).mono ?_); rintro r9 w9 ⟨rfl, gq⟩; have hv := after hv gq; have ha := ha.below gq ha.lt; have hb := hb.below gq hb.lt; have hp := hp.below gq hp.lt; have hq := hq.below gq hq.lt; have hr := hr.below gq hr.lt; clear gq; have a0 := ha.cell 0; have a1 := ha.cell 1; have a2 := ha.cell 2; have b0 := hb.cell 0; have b1 := hb.cell 1; have b2 := hb.cell 2; have cp0 := hp.cell 0; have cp1 := hp.cell 1; have cp2 := hp.cell 2; have cp3 := hp.cell 3; have cq0 := hq.cell 0; have cq1 := hq.cell 1; have cq2 := hq.cell 2; have cq3 := hq.cell 3; have cr0 := hr.cell 0; have cr1 := hr.cell 1; have cr2 := hr.cell 2; have cr3 := hr.cell 3; simp at a0 a1 a2 b0 b1 b2 cp0 cp1 cp2 cp3 cq0 cq1 cq2 cq3 cr0 cr1 cr2 cr3) | (go_at_call 28; (with_reducible refine (HG4.out _).mono ?_); rintro r9 w9 ⟨rfl, gq⟩; have hv := after hv gq; have ha := ha.below gq ha.lt; have hb := hb.below gq hb.lt; have hp := hp.below gq hp.lt; have hq := hq.below gq hq.lt; have hr := hr.below gq hr.lt; clear gq; have a0 := ha.cell 0; have a1 := ha.cell 1; have a2 := ha.cell 2; have b0 := hb.cell 0; have b1 := hb.cell 1; have b2 := hb.cell 2; have cp0 := hp.cell 0; have cp1 := hp.cell 1; have cp2 := hp.cell 2; have cp3 := hp.cell 3; have cq0 := hq.cell 0; have cq1 := hq.cell 1; have cq2 := hq.cell 2; have cq3 := hq.cell 3; have cr0 := hr.cell 0; have cr1 := hr.cell 1; have cr2 := hr.cell 2; have cr3 := hr.cell 3; simp at a0 a1 a2 b0 b1 b2 cp0 cp1 cp2 cp3 cq0 cq1 cq2 cq3 cr0 cr1 cr2 cr3) | (go_at_call 30; (with_reducible refine (HL1.out _).mono ?_); rintro r9 w9 ⟨rfl, gq⟩; have hv := after hv gq; have ha := ha.below gq ha.lt; have hb := hb.below gq hb.lt; have hp := hp.below gq hp.lt; have hq := hq.below gq hq.lt; have hr := hr.below gq hr.lt; clear gq; have a0 := ha.cell 0; have a1 := ha.cell 1; have a2 := ha.cell 2; have b0 := hb.cell 0; have b1 := hb.cell 1; have b2 := hb.cell 2; have cp0 := hp.cell 0; have cp1 := hp.cell 1; have cp2 := hp.cell 2; have cp3 := hp.cell 3; have cq0 := hq.cell 0; have cq1 := hq.cell 1; have cq2 := hq.cell 2; have cq3 := hq.cell 3; have cr0 := hr.cell 0; have cr1 := hr.cell 1; have cr2 := hr.cell 2; have cr3 := hr.cell 3; simp at a0 a1 a2 b0 b1 b2 cp0 cp1 cp2 cp3 cq0 cq1 cq2 cq3 cr0 cr1 cr2 cr3) | (go_at_call 30; (with_reducible refine (HL2.out _).mono ?_); rintro r9 w9 ⟨rfl, gq⟩; have hv := after hv gq; have ha := ha.below gq ha.lt; have hb := hb.below gq hb.lt; have hp := hp.below gq hp.lt; have hq := hq.below gq hq.lt; have hr := hr.below gq hr.lt; clear gq; have a0 := ha.cell 0; have a1 := ha.cell 1; have a2 := ha.cell 2; have b0 := hb.cell 0; have b1 := hb.cell 1; have b2 := hb.cell 2; have cp0 := hp.cell 0; have cp1 := hp.cell 1; have cp2 := hp.cell 2; have cp3 := hp.cell 3; have cq0 := hq.cell 0; have cq1 := hq.cell 1; have cq2 := hq.cell 2; have cq3 := hq.cell 3; have cr0 := hr.cell 0; have cr1 := hr.cell 1; have cr2 := hr.cell 2; have cr3 := hr.cell 3; simp at a0 a1 a2 b0 b1 b2 cp0 cp1 cp2 cp3 cq0 cq1 cq2 cq3 cr0 cr1 cr2 cr3) | (go_at_call 9; (with_reducible refine (HWK.out _ hv).mono ?_); rintro r9 w9 ⟨rfl, gq⟩; have hv := after hv gq; have ha := ha.below gq ha.lt; have hb := hb.below gq hb.lt; have hp := hp.below gq hp.lt; have hq := hq.below gq hq.lt; have hr := hr.below gq hr.lt; clear gq; have a0 := ha.cell 0; have a1 := ha.cell 1; have a2 := ha.cell 2; have b0 := hb.cell 0; have b1 := hb.cell 1; have b2 := hb.cell 2; have cp0 := hp.cell 0; have cp1 := hp.cell 1; have cp2 := hp.cell 2; have cp3 := hp.cell 3; have cq0 := hq.cell 0; have cq1 := hq.cell 1; have cq2 := hq.cell 2; have cq3 := hq.cell 3; have cr0 := hr.cell 0; have cr1 := hr.cell 1; have cr2 := hr.cell 2; have cr3 := hr.cell 3; simp at a0 a1 a2 b0 b1 b2 cp0 cp1 cp2 cp3 cq0 cq1 cq2 cq3 cr0 cr1 cr2 cr3))
    have hk : K14 w false w.heap.size (w.heap.size + 1) q r ah al bh bl q2 q3 r2 r3 NN _ := ⟨hv.drew, ha.drew, hb.drew, hq.drew, hr.drew⟩
    clear a0 a1 a2 b0 b1 b2 cp0 cp1 cp2 cp3 cq0 cq1 cq2 cq3 cr0 cr1 cr2 cr3 hv ha hb hp hq hr
    have hls := less_ne hab
    have hlt : (ah = bh ∧ al = bl) → False := by rintro ⟨rfl, rfl⟩; exact hab rfl
    generalize lessA ⟨false, ah, al⟩ ⟨false, bh, bl⟩ = L1 at l1 hls
    generalize lessA ⟨false, bh, bl⟩ ⟨false, ah, al⟩ = L2 at l2 hls
    have HL1 := Lib.hid l1
    have HL2 := Lib.hid l2
    clear l1 l2 hab
    have dj : r2 ≠ q2 ∨ (r2 = q2 ∧ r3 ≠ q3) := by
      rcases Nat.decEq r2 q2 with h | h
      · exact Or.inl h
      · exact Or.inr ⟨h, fun h' => hqr ⟨h, h'⟩⟩
    clear hqr
    rcases dj with dj | ⟨dj, dk⟩
    · have z1 : ((r2 : Int) == (q2 : Int)) = false := by simp; omega
      clear dj
      have dj : ah ≠ bh ∨ (ah = bh ∧ al ≠ bl) := by
        rcases Nat.decEq ah bh with h | h
        · exact Or.inl h
        · exact Or.inr ⟨h, fun h' => hlt ⟨h, h'⟩⟩
      clear hlt
      rcases dj with dj | ⟨dj, dk⟩
      · have z1 : ((ah : Int) == (bh : Int)) = false := by simp; omega
        clear dj
        cases L1 with
        | false =>
          cases L2 with
          | false => exact absurd hls (by decide)
          | true =>
            clear hls
            refine wp_region_held_drew (S := S14 false w.heap.size (w.heap.size + 1) q r ah al bh bl q2 q3 r2 r3 NN) (by kernel_rfl) hk.S (fun hHeld => ?_)
            refine' wpAnyH_take (i := 0) (v := _) rfl (by kernel_rfl) (by kernel_rfl) (by kernel_rfl) (fun _ _ _ h => h) (Or.inl ⟨by rfl, ?ly136⟩) (by assumption) ?lrest136
            case ly136 =>
              intro w hSw
              unfold S14 at hSw
              go_simp
              try with_reducible rfl
            try simp only [Act.put, List.setIfInBounds_toArray, List.set_cons_zero, List.set_cons_succ, List.getElem_toArray, List.getElem_cons_zero, List.getElem_cons_succ]
            refine' wpAnyH_take (i := 1) (v := _) rfl (by kernel_rfl) (by kernel_rfl) (by kernel_rfl) (fun _ _ _ h => h) (Or.inl ⟨by rfl, ?ly137⟩) (by assumption) ?lrest137
            case ly137 =>
              intro w hSw
              unfold S14 at hSw
              go_simp
              try with_reducible rfl
            try simp only [Act.put, List.setIfInBounds_toArray, List.set_cons_zero, List.set_cons_succ, List.getElem_toArray, List.getElem_cons_zero, List.getElem_cons_succ]
            refine' wpAnyH_take (i := 3) (v := _) rfl (by kernel_rfl) (by kernel_rfl) (by kernel_rfl) (fun _ _ _ h => h) (Or.inl ⟨by rfl, ?ly138⟩) (by assumption) ?lrest138
            case ly138 =>
              intro w hSw
              unfold S14 at hSw
              go_simp
              try with_reducible rfl
            try simp only [Act.put, List.setIfInBounds_toArray, List.set_cons_zero, List.set_cons_succ, List.getElem_toArray, List.getElem_cons_zero, List.getElem_cons_succ]
            refine' wpAnyH_take (i := 4) (v := _) rfl (by kernel_rfl) (by kernel_rfl) (by kernel_rfl) (fun _ _ _ h => h) (Or.inl ⟨by rfl, ?ly139⟩) (by assumption) ?lrest139
            case ly139 =>
              intro w hSw
              unfold S14 at hSw
              go_simp
              try with_reducible rfl
            try simp only [Act.put, List.setIfInBounds_toArray, List.set_cons_zero, List.set_cons_succ, List.getElem_toArray, List.getElem_cons_zero, List.getElem_cons_succ]
            refine' wpAnyH_take (i := 5) (v := _) rfl (by kernel_rfl) (by kernel_rfl) (by kernel_rfl) (fun _ _ _ h => h) (Or.inl ⟨by rfl, ?ly140⟩) (by assumption) ?lrest140
            case ly140 =>
              intro w hSw
              unfold S14 at hSw
              go_simp
              try with_reducible rfl
            try simp only [Act.put, List.setIfInBounds_toArray, List.set_cons_zero, List.set_cons_succ, List.getElem_toArray, List.getElem_cons_zero, List.getElem_cons_succ]
            refine wpAnyH_ready (rs := [2]) (by kernel_rfl) (by simp) ?_
            refine AllReadyH.cons rfl (fun K hK => ?_) AllReadyH.nil
            go_simp
            refine (HG3.out _).mono ?_
            rintro r9 w9 ⟨rfl, gq⟩
            have hk := hk.step gq
            refine hK.out _ _ hk.S (fun hHeld => ?_)
            clear hK K
            try simp only [Act.put, List.setIfInBounds_toArray, List.set_cons_zero, List.set_cons_succ, List.getElem_toArray, List.getElem_cons_zero, List.getElem_cons_succ]
            refine' wpAnyH_take (i := 6) (v := _) rfl (by kernel_rfl) (by kernel_rfl) (by kernel_rfl) (fun _ _ _ h => h) (Or.inl ⟨by rfl, ?ly142⟩) (by assumption) ?lrest142
            case ly142 =>
              intro w hSw
              unfold S14 at hSw
              go_simp
              try with_reducible rfl
            try simp only [Act.put, List.setIfInBounds_toArray, List.set_cons_zero, List.set_cons_succ, List.getElem_toArray, List.getElem_cons_zero, List.getElem_cons_succ]
            refine' wpAnyH_take (i := 7) (v := _) rfl (by kernel_rfl) (by kernel_rfl) (by kernel_rfl) (fun _ _ _ h => h) (Or.inl ⟨by rfl, ?ly143⟩) (by assumption) ?lrest143
            case ly143 =>
              intro w hSw
              unfold S14 at hSw
              go_simp
              try with_reducible rfl
            try simp only [Act.put, List.setIfInBounds_toArray, List.set_cons_zero, List.set_cons_succ, List.getElem_toArray, List.getElem_cons_zero, List.getElem_cons_succ]
            refine' wpAnyH_take (i := 8) (v := _) rfl (by kernel_rfl) (by kernel_rfl) (by kernel_rfl) (fun _ _ _ h => h) (Or.inl ⟨by rfl, ?ly144⟩) (by assumption) ?lrest144
            case ly144 =>
              intro w hSw
              unfold S14 at hSw
              go_simp
              try with_reducible rfl
            try simp only [Act.put, List.setIfInBounds_toArray, List.set_cons_zero, List.set_cons_succ, List.getElem_toArray, List.getElem_cons_zero, List.getElem_cons_succ]
            refine' wpAnyH_take (i := 9) (v := _) rfl (by kernel_rfl) (by kernel_rfl) (by kernel_rfl) (fun _ _ _ h => h) (Or.inl ⟨by rfl, ?ly145⟩) (by assumption) ?lrest145
            case ly145 =>
              intro w hSw
              unfold S14 at hSw
              go_simp
              try with_reducible rfl
            try simp only [Act.put, List.setIfInBounds_toArray, List.set_cons_zero, List.set_cons_succ, List.getElem_toArray, List.getElem_cons_zero, List.getElem_cons_succ]
            refine' wpAnyH_take (i := 10) (v := _) rfl (by kernel_rfl) (by kernel_rfl) (by kernel_rfl) (fun _ _ _ h => h) (Or.inl ⟨by rfl, ?ly146⟩) (by assumption) ?lrest146
            case ly146 =>
              intro w hSw
              unfold S14 at hSw
              go_simp
              try with_reducible rfl
            try simp only [Act.put, List.setIfInBounds_toArray, List.set_cons_zero, List.set_cons_succ, List.getElem_toArray, List.getElem_cons_zero, List.getElem_cons_succ]
            refine' wpAnyH_take (i := 11) (v := _) rfl (by kernel_rfl) (by kernel_rfl) (by kernel_rfl) (fun _ _ _ h => h) (Or.inl ⟨by rfl, ?ly147⟩) (by assumption) ?lrest147
            case ly147 =>
              intro w hSw
              unfold S14 at hSw
              go_simp
              try with_reducible rfl
            try simp only [Act.put, List.setIfInBounds_toArray, List.set_cons_zero, List.set_cons_succ, List.getElem_toArray, List.getElem_cons_zero, List.getElem_cons_succ]
            refine' wpAnyH_take (i := 12) (v := _) rfl (by kernel_rfl) (by kernel_rfl) (by kernel_rfl) (fun _ _ _ h => h) (Or.inl ⟨by rfl, ?ly148⟩) (by assumption) ?lrest148
            case ly148 =>
              intro w hSw
              unfold S14 at hSw
              go_simp
              try with_reducible rfl
            try simp only [Act.put, List.setIfInBounds_toArray, List.set_cons_zero, List.set_cons_succ, List.getElem_toArray, List.getElem_cons_zero, List.getElem_cons_succ]
            refine wpAnyH_ready (rs := [13]) (by kernel_rfl) (by simp) ?_
            refine AllReadyH.cons rfl (fun K hK => ?_) AllReadyH.nil
            go_simp
            refine (HL1.out _).mono ?_
            rintro r9 w9 ⟨rfl, gq⟩
            have hk := hk.step gq
            refine hK.out _ _ hk.S (fun hHeld => ?_)
            clear hK K
            try simp only [Act.put, List.setIfInBounds_toArray, List.set_cons_zero, List.set_cons_succ, List.getElem_toArray, List.getElem_cons_zero, List.getElem_cons_succ]
            refine' wpAnyH_take (i := 14) (v := _) rfl (by kernel_rfl) (by kernel_rfl) (by kernel_rfl) (fun _ _ _ h => h) (Or.inl ⟨by rfl, ?ly150⟩) (by assumption) ?lrest150
            case ly150 =>
              intro w hSw
              unfold S14 at hSw
              go_simp
              try with_reducible rfl
            try simp only [Act.put, List.setIfInBounds_toArray, List.set_cons_zero, List.set_cons_succ, List.getElem_toArray, List.getElem_cons_zero, List.getElem_cons_succ]
            refine' wpAnyH_take (i := 15) (v := _) rfl (by kernel_rfl) (by kernel_rfl) (by kernel_rfl) (fun _ _ _ h => h) (Or.inl ⟨by rfl, ?ly151⟩) (by assumption) ?lrest151
            case ly151 =>
              intro w hSw
              unfold S14 at hSw
              go_simp
              try with_reducible rfl
            try simp only [Act.put, List.setIfInBounds_toArray, List.set_cons_zero, List.set_cons_succ, List.getElem_toArray, List.getElem_cons_zero, List.getElem_cons_succ]
            refine' wpAnyH_take (i := 16) (v := _) rfl (by kernel_rfl) (by kernel_rfl) (by kernel_rfl) (fun _ _ _ h => h) (Or.inl ⟨by rfl, ?ly152⟩) (by assumption) ?lrest152
            case ly152 =>
              intro w hSw
              unfold S14 at hSw
              go_simp
              try with_reducible rfl
            try simp only [Act.put, List.setIfInBounds_toArray, List.set_cons_zero, List.set_cons_succ, List.getElem_toArray, List.getElem_cons_zero, List.getElem_cons_succ]
            refine' wpAnyH_take (i := 17) (v := _) rfl (by kernel_rfl) (by kernel_rfl) (by kernel_rfl) (fun _ _ _ h => h) (Or.inl ⟨by rfl, ?ly153⟩) (by assumption) ?lrest153
            case ly153 =>
              intro w hSw
              unfold S14 at hSw
              go_simp
              try with_reducible rfl
            try simp only [Act.put, List.setIfInBounds_toArray, List.set_cons_zero, List.set_cons_succ, List.getElem_toArray, List.getElem_cons_zero, List.getElem_cons_succ]
            refine wpAnyH_ready (rs := [18]) (by kernel_rfl) (by simp) ?_
            refine AllReadyH.cons rfl (fun K hK => ?_) AllReadyH.nil
            go_simp
            refine (HL2.out _).mono ?_
            rintro r9 w9 ⟨rfl, gq⟩
            have hk := hk.step gq
            refine hK.out _ _ hk.S (fun hHeld => ?_)
            clear hK K
            try simp only [Act.put, List.setIfInBounds_toArray, List.set_cons_zero, List.set_cons_succ, List.getElem_toArray, List.getElem_cons_zero, List.getElem_cons_succ]
            refine' wpAnyH_take (i := 19) (v := _) rfl (by kernel_rfl) (by kernel_rfl) (by kernel_rfl) (fun _ _ _ h => h) (Or.inl ⟨by rfl, ?ly155⟩) (by assumption) ?lrest155
            case ly155 =>
              intro w hSw
              unfold S14 at hSw
              go_simp
              try with_reducible rfl
            try simp only [Act.put, List.setIfInBounds_toArray, List.set_cons_zero, List.set_cons_succ, List.getElem_toArray, List.getElem_cons_zero, List.getElem_cons_succ]
            refine' wpAnyH_take (i := 20) (v := _) rfl (by kernel_rfl) (by kernel_rfl) (by kernel_rfl) (fun _ _ _ h => h) (Or.inl ⟨by rfl, ?ly156⟩) (by assumption) ?lrest156
            case ly156 =>
              intro w hSw
              unfold S14 at hSw
              go_simp
              try with_reducible rfl
            try simp only [Act.put, List.setIfInBounds_toArray, List.set_cons_zero, List.set_cons_succ, List.getElem_toArray, List.getElem_cons_zero, List.getElem_cons_succ]
            refine' wpAnyH_take (i := 21) (v := _) rfl (by kernel_rfl) (by kernel_rfl) (by kernel_rfl) (fun _ _ _ h => h) (Or.inl ⟨by rfl, ?ly157⟩) (by assumption) ?lrest157
            case ly157 =>
              intro w hSw
              unfold S14 at hSw
              go_simp
              try with_reducible rfl
            try simp only [Act.put, List.setIfInBounds_toArray, List.set_cons_zero, List.set_cons_succ, List.getElem_toArray, List.getElem_cons_zero, List.getElem_cons_succ]
            refine' wpAnyH_take (i := 22) (v := _) rfl (by kernel_rfl) (by kernel_rfl) (by kernel_rfl) (fun _ _ _ h => h) (Or.inl ⟨by rfl, ?ly158⟩) (by assumption) ?lrest158
            case ly158 =>
              intro w hSw
              unfold S14 at hSw
              go_simp
              try with_reducible rfl
            try simp only [Act.put, List.setIfInBounds_toArray, List.set_cons_zero, List.set_cons_succ, List.getElem_toArray, List.getElem_cons_zero, List.getElem_cons_succ]
            refine' wpAnyH_take (i := 23) (v := _) rfl (by kernel_rfl) (by kernel_rfl) (by kernel_rfl) (fun _ _ _ h => h) (Or.inl ⟨by rfl, ?ly159⟩) (by assumption) ?lrest159
            case ly159 =>
              intro w hSw
              unfold S14 at hSw
              go_simp
              try with_reducible rfl
            try simp only [Act.put, List.setIfInBounds_toArray, List.set_cons_zero, List.set_cons_succ, List.getElem_toArray, List.getElem_cons_zero, List.getElem_cons_succ]
            refine wpAnyH_ready (rs := [24]) (by kernel_rfl) (by simp) ?_
            refine AllReadyH.cons rfl (fun K hK => ?_) AllReadyH.nil
            go_simp
            refine (HWK.out _ hk.bel).mono ?_
            rintro r9 w9 ⟨rfl, gq⟩
            have hk := hk.step gq
            refine hK.out _ _ hk.S (fun hHeld => ?_)
            clear hK K
            try simp only [Act.put, List.setIfInBounds_toArray, List.set_cons_zero, List.set_cons_succ, List.getElem_toArray, List.getElem_cons_zero, List.getElem_cons_succ]
            refine' wpAnyH_take (i := 25) (v := _) rfl (by kernel_rfl) (by kernel_rfl) (by kernel_rfl) (fun _ _ _ h => h) (Or.inl ⟨by rfl, ?ly161⟩) (by assumption) ?lrest161
            case ly161 =>
              intro w hSw
              unfold S14 at hSw
              go_simp
              try with_reducible rfl
            try simp only [Act.put, List.setIfInBounds_toArray, List.set_cons_zero, List.set_cons_succ, List.getElem_toArray, List.getElem_cons_zero, List.getElem_cons_succ]
            refine' wpAnyH_take (i := 26) (v := _) rfl (by kernel_rfl) (by kernel_rfl) (by kernel_rfl) (fun _ _ _ h => h) (Or.inl ⟨by rfl, ?ly162⟩) (by assumption) ?lrest162
            case ly162 =>
              intro w hSw
              unfold S14 at hSw
              go_simp
              try with_reducible rfl
            try simp only [Act.put, List.setIfInBounds_toArray, List.set_cons_zero, List.set_cons_succ, List.getElem_toArray, List.getElem_cons_zero, List.getElem_cons_succ]
            refine wpAnyH_done (by kernel_rfl) ?_ _
            go_wp2_with fail
            go_ret
            exact ⟨rfl, hk.bel⟩
        | true =>
          clear hls
          refine wp_region_held_drew (S := S14 false w.heap.size (w.heap.size + 1) q r ah al bh bl q2 q3 r2 r3 NN) (by kernel_rfl) hk.S (fun hHeld => ?_)
          refine' wpAnyH_take (i := 0) (v := _) rfl (by kernel_rfl) (by kernel_rfl) (by kernel_rfl) (fun _ _ _ h => h) (Or.inl ⟨by rfl, ?ly163⟩) (by assumption) ?lrest163
          case ly163 =>
            intro w hSw
            unfold S14 at hSw
            go_simp
            try with_reducible rfl
          try simp only [Act.put, List.setIfInBounds_toArray, List.set_cons_zero, List.set_cons_succ, List.getElem_toArray, List.getElem_cons_zero, List.getElem_cons_succ]
          refine' wpAnyH_take (i := 1) (v := _) rfl (by kernel_rfl) (by kernel_rfl) (by kernel_rfl) (fun _ _ _ h => h) (Or.inl ⟨by rfl, ?ly164⟩) (by assumption) ?lrest164
          case ly164 =>
            intro w hSw
            unfold S14 at hSw
            go_simp
            try with_reducible rfl
          try simp only [Act.put, List.setIfInBounds_toArray, List.set_cons_zero, List.set_cons_succ, List.getElem_toArray, List.getElem_cons_zero, List.getElem_cons_succ]
          refine' wpAnyH_take (i := 3) (v := _) rfl (by kernel_rfl) (by kernel_rfl) (by kernel_rfl) (fun _ _ _ h => h) (Or.inl ⟨by rfl, ?ly165⟩) (by assumption) ?lrest165
          case ly165 =>
            intro w hSw
            unfold S14 at hSw
            go_simp
            try with_reducible rfl
          try simp only [Act.put, List.setIfInBounds_toArray, List.set_cons_zero, List.set_cons_succ, List.getElem_toArray, List.getElem_cons_zero, List.getElem_cons_succ]
          refine' wpAnyH_take (i := 4) (v := _) rfl (by kernel_rfl) (by kernel_rfl) (by kernel_rfl) (fun _ _ _ h => h) (Or.inl ⟨by rfl, ?ly166⟩) (by assumption) ?lrest166
          case ly166 =>
            intro w hSw
            unfold S14 at hSw
            go_simp
            try with_reducible rfl
          try simp only [Act.put, List.setIfInBounds_toArray, List.set_cons_zero, List.set_cons_succ, List.getElem_toArray, List.getElem_cons_zero, List.getElem_cons_succ]
          refine' wpAnyH_take (i := 5) (v := _) rfl (by kernel_rfl) (by kernel_rfl) (by kernel_rfl) (fun _ _ _ h => h) (Or.inl ⟨by rfl, ?ly167⟩) (by assumption) ?lrest167
          case ly167 =>
            intro w hSw
            unfold S14 at hSw
            go_simp
            try with_reducible rfl
          try simp only [Act.put, List.setIfInBounds_toArray, List.set_cons_zero, List.set_cons_succ, List.getElem_toArray, List.getElem_cons_zero, List.getElem_cons_succ]
          refine wpAnyH_ready (rs := [2]) (by kernel_rfl) (by simp) ?_
          refine AllReadyH.cons rfl (fun K hK => ?_) AllReadyH.nil
          go_simp
          refine (HG3.out _).mono ?_
          rintro r9 w9 ⟨rfl, gq⟩
          have hk := hk.step gq
          refine hK.out _ _ hk.S (fun hHeld => ?_)
          clear hK K
          try simp only [Act.put, List.setIfInBounds_toArray, List.set_cons_zero, List.set_cons_succ, List.getElem_toArray, List.getElem_cons_zero, List.getElem_cons_succ]
          refine' wpAnyH_take (i := 6) (v := _) rfl (by kernel_rfl) (by kernel_rfl) (by kernel_rfl) (fun _ _ _ h => h) (Or.inl ⟨by rfl, ?ly169⟩) (by assumption) ?lrest169
          case ly169 =>
            intro w hSw
            unfold S14 at hSw
            go_simp
            try with_reducible rfl
          try simp only [Act.put, List.setIfInBounds_toArray, List.set_cons_zero, List.set_cons_succ, List.getElem_toArray, List.getElem_cons_zero, List.getElem_cons_succ]
          refine' wpAnyH_take (i := 7) (v := _) rfl (by kernel_rfl) (by kernel_rfl) (by kernel_rfl) (fun _ _ _ h => h) (Or.inl ⟨by rfl, ?ly170⟩) (by assumption) ?lrest170
          case ly170 =>
            intro w hSw
            unfold S14 at hSw
            go_simp
            try with_reducible rfl
          try simp only [Act.put, List.setIfInBounds_toArray, List.set_cons_zero, List.set_cons_succ, List.getElem_toArray, List.getElem_cons_zero, List.getElem_cons_succ]
          refine' wpAnyH_take (i := 8) (v := _) rfl (by kernel_rfl) (by kernel_rfl) (by kernel_rfl) (fun _ _ _ h => h) (Or.inl ⟨by rfl, ?ly171⟩) (by assumption) ?lrest171
          case ly171 =>
            intro w hSw
            unfold S14 at hSw
            go_simp
            try with_reducible rfl
          try simp only [Act.put, List.setIfInBounds_toArray, List.set_cons_zero, List.set_cons_succ, List.getElem_toArray, List.getElem_cons_zero, List.getElem_cons_succ]
          refine' wpAnyH_take (i := 9) (v := _) rfl (by kernel_rfl) (by kernel_rfl) (by kernel_rfl) (fun _ _ _ h => h) (Or.inl ⟨by rfl, ?ly172⟩) (by assumption) ?lrest172
          case ly172 =>
            intro w hSw
            unfold S14 at hSw
            go_simp
            try with_reducible rfl
          try simp only [Act.put, List.setIfInBounds_toArray, List.set_cons_zero, List.set_cons_succ, List.getElem_toArray, List.getElem_cons_zero, List.getElem_cons_succ]
          refine' wpAnyH_take (i := 10) (v := _) rfl (by kernel_rfl) (by kernel_rfl) (by kernel_rfl) (fun _ _ _ h => h) (Or.inl ⟨by rfl, ?ly173⟩) (by assumption) ?lrest173
          case ly173 =>
            intro w hSw
            unfold S14 at hSw
            go_simp
            try with_reducible rfl
          try simp only [Act.put, List.setIfInBounds_toArray, List.set_cons_zero, List.set_cons_succ, List.getElem_toArray, List.getElem_cons_zero, List.getElem_cons_succ]
          refine' wpAnyH_take (i := 11) (v := _) rfl (by kernel_rfl) (by kernel_rfl) (by kernel_rfl) (fun _ _ _ h => h) (Or.inl ⟨by rfl, ?ly174⟩) (by assumption) ?lrest174
          case ly174 =>
            intro w hSw
            unfold S14 at hSw
            go_simp
            try with_reducible rfl
          try simp only [Act.put, List.setIfInBounds_toArray, List.set_cons_zero, List.set_cons_succ, List.getElem_toArray, List.getElem_cons_zero, List.getElem_cons_succ]
          refine' wpAnyH_take (i := 12) (v := _) rfl (by kernel_rfl) (by kernel_rfl) (by kernel_rfl) (fun _ _ _ h => h) (Or.inl ⟨by rfl, ?ly175⟩) (by assumption) ?lrest175
          case ly175 =>
            intro w hSw
            unfold S14 at hSw
            go_simp
            try with_reducible rfl
          try simp only [Act.put, List.setIfInBounds_toArray, List.set_cons_zero, List.set_cons_succ, List.getElem_toArray, List.getElem_cons_zero, List.getElem_cons_succ]
          refine wpAnyH_ready (rs := [13]) (by kernel_rfl) (by simp) ?_
          refine AllReadyH.cons rfl (fun K hK => ?_) AllReadyH.nil
          go_simp
          refine (HL1.out _).mono ?_
          rintro r9 w9 ⟨rfl, gq⟩
          have hk := hk.step gq
          refine hK.out _ _ hk.S (fun hHeld => ?_)
          clear hK K
          try simp only [Act.put, List.setIfInBounds_toArray, List.set_cons_zero, List.set_cons_succ, List.getElem_toArray, List.getElem_cons_zero, List.getElem_cons_succ]
          refine' wpAnyH_take (i := 14) (v := _) rfl (by kernel_rfl) (by kernel_rfl) (by kernel_rfl) (fun _ _ _ h => h) (Or.inl ⟨by rfl, ?ly177⟩) (by assumption) ?lrest177
          case ly177 =>
            intro w hSw
            unfold S14 at hSw
            go_simp
            try with_reducible rfl
          try simp only [Act.put, List.setIfInBounds_toArray, List.set_cons_zero, List.set_cons_succ, List.getElem_toArray, List.getElem_cons_zero, List.getElem_cons_succ]
          refine' wpAnyH_take (i := 15) (v := _) rfl (by kernel_rfl) (by kernel_rfl) (by kernel_rfl) (fun _ _ _ h => h) (Or.inl ⟨by rfl, ?ly178⟩) (by assumption) ?lrest178
          case ly178 =>
            intro w hSw
            unfold S14 at hSw
            go_simp
            try with_reducible rfl
          try simp only [Act.put, List.setIfInBounds_toArray, List.set_cons_zero, List.set_cons_succ, List.getElem_toArray, List.getElem_cons_zero, List.getElem_cons_succ]
          refine' wpAnyH_take (i := 16) (v := undef) rfl (by kernel_rfl) (by kernel_rfl) (by kernel_rfl) (fun _ _ _ h => h) (Or.inr ⟨by rfl, rfl⟩) (by assumption) ?lrest179
          try simp only [Act.put, List.setIfInBounds_toArray, List.set_cons_zero, List.set_cons_succ, List.getElem_toArray, List.getElem_cons_zero, List.getElem_cons_succ]
          refine' wpAnyH_take (i := 17) (v := undef) rfl (by kernel_rfl) (by kernel_rfl) (by kernel_rfl) (fun _ _ _ h => h) (Or.inr ⟨by rfl, rfl⟩) (by assumption) ?lrest180
          try simp only [Act.put, List.setIfInBounds_toArray, List.set_cons_zero, List.set_cons_succ, List.getElem_toArray, List.getElem_cons_zero, List.getElem_cons_succ]
          refine' wpAnyH_take (i := 18) (v := undef) rfl (by kernel_rfl) (by kernel_rfl) (by kernel_rfl) (fun _ _ _ h => h) (Or.inr ⟨by rfl, rfl⟩) (by assumption) ?lrest181
          try simp only [Act.put, List.setIfInBounds_toArray, List.set_cons_zero, List.set_cons_succ, List.getElem_toArray, List.getElem_cons_zero, List.getElem_cons_succ]
          refine' wpAnyH_take (i := 19) (v := undef) rfl (by kernel_rfl) (by kernel_rfl) (by kernel_rfl) (fun _ _ _ h => h) (Or.inr ⟨by rfl, rfl⟩) (by assumption) ?lrest182
          try simp only [Act.put, List.setIfInBounds_toArray, List.set_cons_zero, List.set_cons_succ, List.getElem_toArray, List.getElem_cons_zero, List.getElem_cons_succ]
          refine' wpAnyH_take (i := 20) (v := _) rfl (by kernel_rfl) (by kernel_rfl) (by kernel_rfl) (fun _ _ _ h => h) (Or.inl ⟨by rfl, ?ly183⟩) (by assumption) ?lrest183
          case ly183 =>
            intro w hSw
            unfold S14 at hSw
            go_simp
            try with_reducible rfl
          try simp only [Act.put, List.setIfInBounds_toArray, List.set_cons_zero, List.set_cons_succ, List.getElem_toArray, List.getElem_cons_zero, List.getElem_cons_succ]
          refine' wpAnyH_take (i := 21) (v := _) rfl (by kernel_rfl) (by kernel_rfl) (by kernel_rfl) (fun _ _ _ h => h) (Or.inl ⟨by rfl, ?ly184⟩) (by assumption) ?lrest184
          case ly184 =>
            intro w hSw
            unfold S14 at hSw
            go_simp
            try with_reducible rfl
          try simp only [Act.put, List.setIfInBounds_toArray, List.set_cons_zero, List.set_cons_succ, List.getElem_toArray, List.getElem_cons_zero, List.getElem_cons_succ]
          refine' wpAnyH_take (i := 22) (v := _) rfl (by kernel_rfl) (by kernel_rfl) (by kernel_rfl) (fun _ _ _ h => h) (Or.inl ⟨by rfl, ?ly185⟩) (by assumption) ?lrest185
          case ly185 =>
            intro w hSw
            unfold S14 at hSw
            go_simp
            try with_reducible rfl
          try simp only [Act.put, List.setIfInBounds_toArray, List.set_cons_zero, List.set_cons_succ, List.getElem_toArray, List.getElem_cons_zero, List.getElem_cons_succ]
          refine' wpAnyH_take (i := 23) (v := _) rfl (by kernel_rfl) (by kernel_rfl) (by kernel_rfl) (fun _ _ _ h => h) (Or.inl ⟨by rfl, ?ly186⟩) (by assumption) ?lrest186
          case ly186 =>
            intro w hSw
            unfold S14 at hSw
            go_simp
            try with_reducible rfl
          try simp only [Act.put, List.setIfInBounds_toArray, List.set_cons_zero, List.set_cons_succ, List.getElem_toArray, List.getElem_cons_zero, List.getElem_cons_succ]
          refine wpAnyH_ready (rs := [24]) (by kernel_rfl) (by simp) ?_
          refine AllReadyH.cons rfl (fun K hK => ?_) AllReadyH.nil
          go_simp
          refine (HWK.out _ hk.bel).mono ?_
          rintro r9 w9 ⟨rfl, gq⟩
          have hk := hk.step gq
          refine hK.out _ _ hk.S (fun hHeld => ?_)
          clear hK K
          try simp only [Act.put, List.setIfInBounds_toArray, List.set_cons_zero, List.set_cons_succ, List.getElem_toArray, List.getElem_cons_zero, List.getElem_cons_succ]
          refine' wpAnyH_take (i := 25) (v := _) rfl (by kernel_rfl) (by kernel_rfl) (by kernel_rfl) (fun _ _ _ h => h) (Or.inl ⟨by rfl, ?ly188⟩) (by assumption) ?lrest188
          case ly188 =>
            intro w hSw
            unfold S14 at hSw
            go_simp
            try with_reducible rfl
          try simp only [Act.put, List.setIfInBounds_toArray, List.set_cons_zero, List.set_cons_succ, List.getElem_toArray, List.getElem_cons_zero, List.getElem_cons_succ]
          refine' wpAnyH_take (i := 26) (v := _) rfl (by kernel_rfl) (by kernel_rfl) (by kernel_rfl) (fun _ _ _ h => h) (Or.inl ⟨by rfl, ?ly189⟩) (by assumption) ?lrest189
          case ly189 =>
            intro w hSw
            unfold S14 at hSw
            go_simp
            try with_reducible rfl
          try simp only [Act.put, List.setIfInBounds_toArray, List.set_cons_zero, List.set_cons_succ, List.getElem_toArray, List.getElem_cons_zero, List.getElem_cons_succ]
          refine wpAnyH_done (by kernel_rfl) ?_ _
          go_wp2_with fail
          go_ret
          exact ⟨rfl, hk.bel⟩
      · subst dj
        have z2 : ((al : Int) == (bl : Int)) = false := by simp; omega
        clear dk
        cases L1 with
        | false =>
          cases L2 with
          | false => exact absurd hls (by decide)
          | true =>
            clear hls
            refine wp_region_held_drew (S := S14 false w.heap.size (w.heap.size + 1) q r ah al ah bl q2 q3 r2 r3 NN) (by kernel_rfl) hk.S (fun hHeld => ?_)
            refine' wpAnyH_take (i := 0) (v := _) rfl (by kernel_rfl) (by kernel_rfl) (by kernel_rfl) (fun _ _ _ h => h) (Or.inl ⟨by rfl, ?ly190⟩) (by assumption) ?lrest190
            case ly190 =>
              intro w hSw
              unfold S14 at hSw
              go_simp
              try with_reducible rfl
            try simp only [Act.put, List.setIfInBounds_toArray, List.set_cons_zero, List.set_cons_succ, List.getElem_toArray, List.getElem_cons_zero, List.getElem_cons_succ]
            refine' wpAnyH_take (i := 1) (v := _) rfl (by kernel_rfl) (by kernel_rfl) (by kernel_rfl) (fun _ _ _ h => h) (Or.inl ⟨by rfl, ?ly191⟩) (by assumption) ?lrest191
            case ly191 =>
              intro w hSw
              unfold S14 at hSw
              go_simp
              try with_reducible rfl
            try simp only [Act.put, List.setIfInBounds_toArray, List.set_cons_zero, List.set_cons_succ, List.getElem_toArray, List.getElem_cons_zero, List.getElem_cons_succ]
            refine' wpAnyH_take (i := 3) (v := _) rfl (by kernel_rfl) (by kernel_rfl) (by kernel_rfl) (fun _ _ _ h => h) (Or.inl ⟨by rfl, ?ly192⟩) (by assumption) ?lrest192
            case ly192 =>
              intro w hSw
              unfold S14 at hSw
              go_simp
              try with_reducible rfl
            try simp only [Act.put, List.setIfInBounds_toArray, List.set_cons_zero, List.set_cons_succ, List.getElem_toArray, List.getElem_cons_zero, List.getElem_cons_succ]
            refine' wpAnyH_take (i := 4) (v := _) rfl (by kernel_rfl) (by kernel_rfl) (by kernel_rfl) (fun _ _ _ h => h) (Or.inl ⟨by rfl, ?ly193⟩) (by assumption) ?lrest193
            case ly193 =>
              intro w hSw
              unfold S14 at hSw
              go_simp
              try with_reducible rfl
            try simp only [Act.put, List.setIfInBounds_toArray, List.set_cons_zero, List.set_cons_succ, List.getElem_toArray, List.getElem_cons_zero, List.getElem_cons_succ]
            refine' wpAnyH_take (i := 5) (v := _) rfl (by kernel_rfl) (by kernel_rfl) (by kernel_rfl) (fun _ _ _ h => h) (Or.inl ⟨by rfl, ?ly194⟩) (by assumption) ?lrest194
            case ly194 =>
              intro w hSw
              unfold S14 at hSw
              go_simp
              try with_reducible rfl
            try simp only [Act.put, List.setIfInBounds_toArray, List.set_cons_zero, List.set_cons_succ, List.getElem_toArray, List.getElem_cons_zero, List.getElem_cons_succ]
            refine wpAnyH_ready (rs := [2]) (by kernel_rfl) (by simp) ?_
            refine AllReadyH.cons rfl (fun K hK => ?_) AllReadyH.nil
            go_simp
            refine (HG3.out _).mono ?_
            rintro r9 w9 ⟨rfl, gq⟩
            have hk := hk.step gq
            refine hK.out _ _ hk.S (fun hHeld => ?_)
            clear hK K
            try simp only [Act.put, List.setIfInBounds_toArray, List.set_cons_zero, List.set_cons_succ, List.getElem_toArray, List.getElem_cons_zero, List.getElem_cons_succ]
            refine' wpAnyH_take (i := 6) (v := _) rfl (by kernel_rfl) (by kernel_rfl) (by kernel_rfl) (fun _ _ _ h => h) (Or.inl ⟨by rfl, ?ly196⟩) (by assumption) ?lrest196
            case ly196 =>
              intro w hSw
              unfold S14 at hSw
              go_simp
              try with_reducible rfl
            try simp only [Act.put, List.setIfInBounds_toArray, List.set_cons_zero, List.set_cons_succ, List.getElem_toArray, List.getElem_cons_zero, List.getElem_cons_succ]
            refine' wpAnyH_take (i := 7) (v := _) rfl (by kernel_rfl) (by kernel_rfl) (by kernel_rfl) (fun _ _ _ h => h) (Or.inl ⟨by rfl, ?ly197⟩) (by assumption) ?lrest197
            case ly197 =>
              intro w hSw
              unfold S14 at hSw
              go_simp
              try with_reducible rfl
            try simp only [Act.put, List.setIfInBounds_toArray, List.set_cons_zero, List.set_cons_succ, List.getElem_toArray, List.getElem_cons_zero, List.getElem_cons_succ]
            refine' wpAnyH_take (i := 8) (v := _) rfl (by kernel_rfl) (by kernel_rfl) (by kernel_rfl) (fun _ _ _ h => h) (Or.inl ⟨by rfl, ?ly198⟩) (by assumption) ?lrest198
            case ly198 =>
              intro w hSw
              unfold S14 at hSw
              go_simp
              try with_reducible rfl
            try simp only [Act.put, List.setIfInBounds_toArray, List.set_cons_zero, List.set_cons_succ, List.getElem_toArray, List.getElem_cons_zero, List.getElem_cons_succ]
            refine' wpAnyH_take (i := 9) (v := _) rfl (by kernel_rfl) (by kernel_rfl) (by kernel_rfl) (fun _ _ _ h => h) (Or.inl ⟨by rfl, ?ly199⟩) (by assumption) ?lrest199
            case ly199 =>
              intro w hSw
              unfold S14 at hSw
              go_simp
              try with_reducible rfl
            try simp only [Act.put, List.setIfInBounds_toArray, List.set_cons_zero, List.set_cons_succ, List.getElem_toArray, List.getElem_cons_zero, List.getElem_cons_succ]
            refine' wpAnyH_take (i := 10) (v := _) rfl (by kernel_rfl) (by kernel_rfl) (by kernel_rfl) (fun _ _ _ h => h) (Or.inl ⟨by rfl, ?ly200⟩) (by assumption) ?lrest200
            case ly200 =>
              intro w hSw
              unfold S14 at hSw
              go_simp
              try with_reducible rfl
            try simp only [Act.put, List.setIfInBounds_toArray, List.set_cons_zero, List.set_cons_succ, List.getElem_toArray, List.getElem_cons_zero, List.getElem_cons_succ]
            refine' wpAnyH_take (i := 11) (v := _) rfl (by kernel_rfl) (by kernel_rfl) (by kernel_rfl) (fun _ _ _ h => h) (Or.inl ⟨by rfl, ?ly201⟩) (by assumption) ?lrest201
            case ly201 =>
              intro w hSw
              unfold S14 at hSw
              go_simp
              try with_reducible rfl
            try simp only [Act.put, List.setIfInBounds_toArray, List.set_cons_zero, List.set_cons_succ, List.getElem_toArray, List.getElem_cons_zero, List.getElem_cons_succ]
            refine' wpAnyH_take (i := 12) (v := _) rfl (by kernel_rfl) (by kernel_rfl) (by kernel_rfl) (fun _ _ _ h => h) (Or.inl ⟨by rfl, ?ly202⟩) (by assumption) ?lrest202
            case ly202 =>
              intro w hSw
              unfold S14 at hSw
              go_simp
              try with_reducible rfl
            try simp only [Act.put, List.setIfInBounds_toArray, List.set_cons_zero, List.set_cons_succ, List.getElem_toArray, List.getElem_cons_zero, List.getElem_cons_succ]
            refine wpAnyH_ready (rs := [13]) (by kernel_rfl) (by simp) ?_
            refine AllReadyH.cons rfl (fun K hK => ?_) AllReadyH.nil
            go_simp
            refine (HL1.out _).mono ?_
            rintro r9 w9 ⟨rfl, gq⟩
            have hk := hk.step gq
            refine hK.out _ _ hk.S (fun hHeld => ?_)
            clear hK K
            try simp only [Act.put, List.setIfInBounds_toArray, List.set_cons_zero, List.set_cons_succ, List.getElem_toArray, List.getElem_cons_zero, List.getElem_cons_succ]
            refine' wpAnyH_take (i := 14) (v := _) rfl (by kernel_rfl) (by kernel_rfl) (by kernel_rfl) (fun _ _ _ h => h) (Or.inl ⟨by rfl, ?ly204⟩) (by assumption) ?lrest204
            case ly204 =>
              intro w hSw
              unfold S14 at hSw
              go_simp
              try with_reducible rfl
            try simp only [Act.put, List.setIfInBounds_toArray, List.set_cons_zero, List.set_cons_succ, List.getElem_toArray, List.getElem_cons_zero, List.getElem_cons_succ]
            refine' wpAnyH_take (i := 15) (v := _) rfl (by kernel_rfl) (by kernel_rfl) (by kernel_rfl) (fun _ _ _ h => h) (Or.inl ⟨by rfl, ?ly205⟩) (by assumption) ?lrest205
            case ly205 =>
              intro w hSw
              unfold S14 at hSw
              go_simp
              try with_reducible rfl
            try simp only [Act.put, List.setIfInBounds_toArray, List.set_cons_zero, List.set_cons_succ, List.getElem_toArray, List.getElem_cons_zero, List.getElem_cons_succ]
            refine' wpAnyH_take (i := 16) (v := _) rfl (by kernel_rfl) (by kernel_rfl) (by kernel_rfl) (fun _ _ _ h => h) (Or.inl ⟨by rfl, ?ly206⟩) (by assumption) ?lrest206
            case ly206 =>
              intro w hSw
              unfold S14 at hSw
              go_simp
              try with_reducible rfl
            try simp only [Act.put, List.setIfInBounds_toArray, List.set_cons_zero, List.set_cons_succ, List.getElem_toArray, List.getElem_cons_zero, List.getElem_cons_succ]
            refine' wpAnyH_take (i := 17) (v := _) rfl (by kernel_rfl) (by kernel_rfl) (by kernel_rfl) (fun _ _ _ h => h) (Or.inl ⟨by rfl, ?ly207⟩) (by assumption) ?lrest207
            case ly207 =>
              intro w hSw
              unfold S14 at hSw
              go_simp
              try with_reducible rfl
            try simp only [Act.put, List.setIfInBounds_toArray, List.set_cons_zero, List.set_cons_succ, List.getElem_toArray, List.getElem_cons_zero, List.getElem_cons_succ]
            refine wpAnyH_ready (rs := [18]) (by kernel_rfl) (by simp) ?_
            refine AllReadyH.cons rfl (fun K hK => ?_) AllReadyH.nil
            go_simp
            refine (HL2.out _).mono ?_
            rintro r9 w9 ⟨rfl, gq⟩
            have hk := hk.step gq
            refine hK.out _ _ hk.S (fun hHeld => ?_)
            clear hK K
            try simp only [Act.put, List.setIfInBounds_toArray, List.set_cons_zero, List.set_cons_succ, List.getElem_toArray, List.getElem_cons_zero, List.getElem_cons_succ]
            refine' wpAnyH_take (i := 19) (v := _) rfl (by kernel_rfl) (by kernel_rfl) (by kernel_rfl) (fun _ _ _ h => h) (Or.inl ⟨by rfl, ?ly209⟩) (by assumption) ?lrest209
            case ly209 =>
              intro w hSw
              unfold S14 at hSw
              go_simp
              try with_reducible rfl
            try simp only [Act.put, List.setIfInBounds_toArray, List.set_cons_zero, List.set_cons_succ, List.getElem_toArray, List.getElem_cons_zero, List.getElem_cons_succ]
            refine' wpAnyH_take (i := 20) (v := _) rfl (by kernel_rfl) (by kernel_rfl) (by kernel_rfl) (fun _ _ _ h => h) (Or.inl ⟨by rfl, ?ly210⟩) (by assumption) ?lrest210
            case ly210 =>
              intro w hSw
              unfold S14 at hSw
              go_simp
              try with_reducible rfl
            try simp only [Act.put, List.setIfInBounds_toArray, List.set_cons_zero, List.set_cons_succ, List.getElem_toArray, List.getElem_cons_zero, List.getElem_cons_succ]
            refine' wpAnyH_take (i := 21) (v := _) rfl (by kernel_rfl) (by kernel_rfl) (by kernel_rfl) (fun _ _ _ h => h) (Or.inl ⟨by rfl, ?ly211⟩) (by assumption) ?lrest211
            case ly211 =>
              intro w hSw
              unfold S14 at hSw
              go_simp
              try with_reducible rfl
            try simp only [Act.put, List.setIfInBounds_toArray, List.set_cons_zero, List.set_cons_succ, List.getElem_toArray, List.getElem_cons_zero, List.getElem_cons_succ]
            refine' wpAnyH_take (i := 22) (v := _) rfl (by kernel_rfl) (by kernel_rfl) (by kernel_rfl) (fun _ _ _ h => h) (Or.inl ⟨by rfl, ?ly212⟩) (by assumption) ?lrest212
            case ly212 =>
              intro w hSw
              unfold S14 at hSw
              go_simp
              try with_reducible rfl
            try simp only [Act.put, List.setIfInBounds_toArray, List.set_cons_zero, List.set_cons_succ, List.getElem_toArray, List.getElem_cons_zero, List.getElem_cons_succ]
            refine' wpAnyH_take (i := 23) (v := _) rfl (by kernel_rfl) (by kernel_rfl) (by kernel_rfl) (fun _ _ _ h => h) (Or.inl ⟨by rfl, ?ly213⟩) (by assumption) ?lrest213
            case ly213 =>
              intro w hSw
              unfold S14 at hSw
              go_simp
              try with_reducible rfl
            try simp only [Act.put, List.setIfInBounds_toArray, List.set_cons_zero, List.set_cons_succ, List.getElem_toArray, List.getElem_cons_zero, List.getElem_cons_succ]
            refine wpAnyH_ready (rs := [24]) (by kernel_rfl) (by simp) ?_
            refine AllReadyH.cons rfl (fun K hK => ?_) AllReadyH.nil
            go_simp
            refine (HWK.out _ hk.bel).mono ?_
            rintro r9 w9 ⟨rfl, gq⟩
            have hk := hk.step gq
            refine hK.out _ _ hk.S (fun hHeld => ?_)
            clear hK K
            try simp only [Act.put, List.setIfInBounds_toArray, List.set_cons_zero, List.set_cons_succ, List.getElem_toArray, List.getElem_cons_zero, List.getElem_cons_succ]
            refine' wpAnyH_take (i := 25) (v := _) rfl (by kernel_rfl) (by kernel_rfl) (by kernel_rfl) (fun _ _ _ h => h) (Or.inl ⟨by rfl, ?ly215⟩) (by assumption) ?lrest215
            case ly215 =>
              intro w hSw
              unfold S14 at hSw
              go_simp
              try with_reducible rfl
            try simp only [Act.put, List.setIfInBounds_toArray, List.set_cons_zero, List.set_cons_succ, List.getElem_toArray, List.getElem_cons_zero, List.getElem_cons_succ]
            refine' wpAnyH_take (i := 26) (v := _) rfl (by kernel_rfl) (by kernel_rfl) (by kernel_rfl) (fun _ _ _ h => h) (Or.inl ⟨by rfl, ?ly216⟩) (by assumption) ?lrest216
            case ly216 =>
              intro w hSw
              unfold S14 at hSw
              go_simp
              try with_reducible rfl
            try simp only [Act.put, List.setIfInBounds_toArray, List.set_cons_zero, List.set_cons_succ, List.getElem_toArray, List.getElem_cons_zero, List.getElem_cons_succ]
            refine wpAnyH_done (by kernel_rfl) ?_ _
            go_wp2_with fail
            go_ret
            exact ⟨rfl, hk.bel⟩
        | true =>
          clear hls
          refine wp_region_held_drew (S := S14 false w.heap.size (w.heap.size + 1) q r ah al ah bl q2 q3 r2 r3 NN) (by kernel_rfl) hk.S (fun hHeld => ?_)
          refine' wpAnyH_take (i := 0) (v := _) rfl (by kernel_rfl) (by kernel_rfl) (by kernel_rfl) (fun _ _ _ h => h) (Or.inl ⟨by rfl, ?ly217⟩) (by assumption) ?lrest217
          case ly217 =>
            intro w hSw
            unfold S14 at hSw
            go_simp
            try with_reducible rfl
          try simp only [Act.put, List.setIfInBounds_toArray, List.set_cons_zero, List.set_cons_succ, List.getElem_toArray, List.getElem_cons_zero, List.getElem_cons_succ]
          refine' wpAnyH_take (i := 1) (v := _) rfl (by kernel_rfl) (by kernel_rfl) (by kernel_rfl) (fun _ _ _ h => h) (Or.inl ⟨by rfl, ?ly218⟩) (by assumption) ?lrest218
          case ly218 =>
            intro w hSw
            unfold S14 at hSw
            go_simp
            try with_reducible rfl
          try simp only [Act.put, List.setIfInBounds_toArray, List.set_cons_zero, List.set_cons_succ, List.getElem_toArray, List.getElem_cons_zero, List.getElem_cons_succ]
          refine' wpAnyH_take (i := 3) (v := _) rfl (by kernel_rfl) (by kernel_rfl) (by kernel_rfl) (fun _ _ _ h => h) (Or.inl ⟨by rfl, ?ly219⟩) (by assumption) ?lrest219
          case ly219 =>
            intro w hSw
            unfold S14 at hSw
            go_simp
            try with_reducible rfl
          try simp only [Act.put, List.setIfInBounds_toArray, List.set_cons_zero, List.set_cons_succ, List.getElem_toArray, List.getElem_cons_zero, List.getElem_cons_succ]
          refine' wpAnyH_take (i := 4) (v := _) rfl (by kernel_rfl) (by kernel_rfl) (by kernel_rfl) (fun _ _ _ h => h) (Or.inl ⟨by rfl, ?ly220⟩) (by assumption) ?lrest220
          case ly220 =>
            intro w hSw
            unfold S14 at hSw
            go_simp
            try with_reducible rfl
          try simp only [Act.put, List.setIfInBounds_toArray, List.set_cons_zero, List.set_cons_succ, List.getElem_toArray, List.getElem_cons_zero, List.getElem_cons_succ]
          refine' wpAnyH_take (i := 5) (v := _) rfl (by kernel_rfl) (by kernel_rfl) (by kernel_rfl) (fun _ _ _ h => h) (Or.inl ⟨by rfl, ?ly221⟩) (by assumption) ?lrest221
          case ly221 =>
            intro w hSw
            unfold S14 at hSw
            go_simp
            try with_reducible rfl
          try simp only [Act.put, List.setIfInBounds_toArray, List.set_cons_zero, List.set_cons_succ, List.getElem_toArray, List.getElem_cons_zero, List.getElem_cons_succ]
          refine wpAnyH_ready (rs := [2]) (by kernel_rfl) (by simp) ?_
          refine AllReadyH.cons rfl (fun K hK => ?_) AllReadyH.nil
          go_simp
          refine (HG3.out _).mono ?_
          rintro r9 w9 ⟨rfl, gq⟩
          have hk := hk.step gq
          refine hK.out _ _ hk.S (fun hHeld => ?_)
          clear hK K
          try simp only [Act.put, List.setIfInBounds_toArray, List.set_cons_zero, List.set_cons_succ, List.getElem_toArray, List.getElem_cons_zero, List.getElem_cons_succ]
          refine' wpAnyH_take (i := 6) (v := _) rfl (by kernel_rfl) (by kernel_rfl) (by kernel_rfl) (fun _ _ _ h => h) (Or.inl ⟨by rfl, ?ly223⟩) (by assumption) ?lrest223
          case ly223 =>
            intro w hSw
            unfold S14 at hSw
            go_simp
            try with_reducible rfl
          try simp only [Act.put, List.setIfInBounds_toArray, List.set_cons_zero, List.set_cons_succ, List.getElem_toArray, List.getElem_cons_zero, List.getElem_cons_succ]
          refine' wpAnyH_take (i := 7) (v := _) rfl (by kernel_rfl) (by kernel_rfl) (by kernel_rfl) (fun _ _ _ h => h) (Or.inl ⟨by rfl, ?ly224⟩) (by assumption) ?lrest224
          case ly224 =>
            intro w hSw
            unfold S14 at hSw
            go_simp
            try with_reducible rfl
          try simp only [Act.put, List.setIfInBounds_toArray, List.set_cons_zero, List.set_cons_succ, List.getElem_toArray, List.getElem_cons_zero, List.getElem_cons_succ]
          refine' wpAnyH_take (i := 8) (v := _) rfl (by kernel_rfl) (by kernel_rfl) (by kernel_rfl) (fun _ _ _ h => h) (Or.inl ⟨by rfl, ?ly225⟩) (by assumption) ?lrest225
          case ly225 =>
            intro w hSw
            unfold S14 at hSw
            go_simp
            try with_reducible rfl
          try simp only [Act.put, List.setIfInBounds_toArray, List.set_cons_zero, List.set_cons_succ, List.getElem_toArray, List.getElem_cons_zero, List.getElem_cons_succ]
          refine' wpAnyH_take (i := 9) (v := _) rfl (by kernel_rfl) (by kernel_rfl) (by kernel_rfl) (fun _ _ _ h => h) (Or.inl ⟨by rfl, ?ly226⟩) (by assumption) ?lrest226
          case ly226 =>
            intro w hSw
            unfold S14 at hSw
            go_simp
            try with_reducible rfl
          try simp only [Act.put, List.setIfInBounds_toArray, List.set_cons_zero, List.set_cons_succ, List.getElem_toArray, List.getElem_cons_zero, List.getElem_cons_succ]
          refine' wpAnyH_take (i := 10) (v := _) rfl (by kernel_rfl) (by kernel_rfl) (by kernel_rfl) (fun _ _ _ h => h) (Or.inl ⟨by rfl, ?ly227⟩) (by assumption) ?lrest227
          case ly227 =>
            intro w hSw
            unfold S14 at hSw
            go_simp
            try with_reducible rfl
          try simp only [Act.put, List.setIfInBounds_toArray, List.set_cons_zero, List.set_cons_succ, List.getElem_toArray, List.getElem_cons_zero, List.getElem_cons_succ]
          refine' wpAnyH_take (i := 11) (v := _) rfl (by kernel_rfl) (by kernel_rfl) (by kernel_rfl) (fun _ _ _ h => h) (Or.inl ⟨by rfl, ?ly228⟩) (by assumption) ?lrest228
          case ly228 =>
            intro w hSw
            unfold S14 at hSw
            go_simp
            try with_reducible rfl
          try simp only [Act.put, List.setIfInBounds_toArray, List.set_cons_zero, List.set_cons_succ, List.getElem_toArray, List.getElem_cons_zero, List.getElem_cons_succ]
          refine' wpAnyH_take (i := 12) (v := _) rfl (by kernel_rfl) (by kernel_rfl) (by kernel_rfl) (fun _ _ _ h => h) (Or.inl ⟨by rfl, ?ly229⟩) (by assumption) ?lrest229
          case ly229 =>
            intro w hSw
            unfold S14 at hSw
            go_simp
            try with_reducible rfl
          try simp only [Act.put, List.setIfInBounds_toArray, List.set_cons_zero, List.set_cons_succ, List.getElem_toArray, List.getElem_cons_zero, List.getElem_cons_succ]
          refine wpAnyH_ready (rs := [13]) (by kernel_rfl) (by simp) ?_
          refine AllReadyH.cons rfl (fun K hK => ?_) AllReadyH.nil
          go_simp
          refine (HL1.out _).mono ?_
          rintro r9 w9 ⟨rfl, gq⟩
          have hk := hk.step gq
          refine hK.out _ _ hk.S (fun hHeld => ?_)
          clear hK K
          try simp only [Act.put, List.setIfInBounds_toArray, List.set_cons_zero, List.set_cons_succ, List.getElem_toArray, List.getElem_cons_zero, List.getElem_cons_succ]
          refine' wpAnyH_take (i := 14) (v := _) rfl (by kernel_rfl) (by kernel_rfl) (by kernel_rfl) (fun _ _ _ h => h) (Or.inl ⟨by rfl, ?ly231⟩) (by assumption) ?lrest231
          case ly231 =>
            intro w hSw
            unfold S14 at hSw
            go_simp
            try with_reducible rfl
          try simp only [Act.put, List.setIfInBounds_toArray, List.set_cons_zero, List.set_cons_succ, List.getElem_toArray, List.getElem_cons_zero, List.getElem_cons_succ]
          refine' wpAnyH_take (i := 15) (v := _) rfl (by kernel_rfl) (by kernel_rfl) (by kernel_rfl) (fun _ _ _ h => h) (Or.inl ⟨by rfl, ?ly232⟩) (by assumption) ?lrest232
          case ly232 =>
            intro w hSw
            unfold S14 at hSw
            go_simp
            try with_reducible rfl
          try simp only [Act.put, List.setIfInBounds_toArray, List.set_cons_zero, List.set_cons_succ, List.getElem_toArray, List.getElem_cons_zero, List.getElem_cons_succ]
          refine' wpAnyH_take (i := 16) (v := undef) rfl (by kernel_rfl) (by kernel_rfl) (by kernel_rfl) (fun _ _ _ h => h) (Or.inr ⟨by rfl, rfl⟩) (by assumption) ?lrest233
          try simp only [Act.put, List.setIfInBounds_toArray, List.set_cons_zero, List.set_cons_succ, List.getElem_toArray, List.getElem_cons_zero, List.getElem_cons_succ]
          refine' wpAnyH_take (i := 17) (v := undef) rfl (by kernel_rfl) (by kernel_rfl) (by kernel_rfl) (fun _ _ _ h => h) (Or.inr ⟨by rfl, rfl⟩) (by assumption) ?lrest234
          try simp only [Act.put, List.setIfInBounds_toArray, List.set_cons_zero, List.set_cons_succ, List.getElem_toArray, List.getElem_cons_zero, List.getElem_cons_succ]
          refine' wpAnyH_take (i := 18) (v := undef) rfl (by kernel_rfl) (by kernel_rfl) (by kernel_rfl) (fun _ _ _ h => h) (Or.inr ⟨by rfl, rfl⟩) (by assumption) ?lrest235
          try simp only [Act.put, List.setIfInBounds_toArray, List.set_cons_zero, List.set_cons_succ, List.getElem_toArray, List.getElem_cons_zero, List.getElem_cons_succ]
          refine' wpAnyH_take (i := 19) (v := undef) rfl (by kernel_rfl) (by kernel_rfl) (by kernel_rfl) (fun _ _ _ h => h) (Or.inr ⟨by rfl, rfl⟩) (by assumption) ?lrest236
          try simp only [Act.put, List.setIfInBounds_toArray, List.set_cons_zero, List.set_cons_succ, List.getElem_toArray, List.getElem_cons_zero, List.getElem_cons_succ]
          refine' wpAnyH_take (i := 20) (v := _) rfl (by kernel_rfl) (by kernel_rfl) (by kernel_rfl) (fun _ _ _ h => h) (Or.inl ⟨by rfl, ?ly237⟩) (by assumption) ?lrest237
          case ly237 =>
            intro w hSw
            unfold S14 at hSw
            go_simp
            try with_reducible rfl
          try simp only [Act.put, List.setIfInBounds_toArray, List.set_cons_zero, List.set_cons_succ, List.getElem_toArray, List.getElem_cons_zero, List.getElem_cons_succ]
          refine' wpAnyH_take (i := 21) (v := _) rfl (by kernel_rfl) (by kernel_rfl) (by kernel_rfl) (fun _ _ _ h => h) (Or.inl ⟨by rfl, ?ly238⟩) (by assumption) ?lrest238
          case ly238 =>
            intro w hSw
            unfold S14 at hSw
            go_simp
            try with_reducible rfl
          try simp only [Act.put, List.setIfInBounds_toArray, List.set_cons_zero, List.set_cons_succ, List.getElem_toArray, List.getElem_cons_zero, List.getElem_cons_succ]
          refine' wpAnyH_take (i := 22) (v := _) rfl (by kernel_rfl) (by kernel_rfl) (by kernel_rfl) (fun _ _ _ h => h) (Or.inl ⟨by rfl, ?ly239⟩) (by assumption) ?lrest239
          case ly239 =>
            intro w hSw
            unfold S14 at hSw
            go_simp
            try with_reducible rfl
          try simp only [Act.put, List.setIfInBounds_toArray, List.set_cons_zero, List.set_cons_succ, List.getElem_toArray, List.getElem_cons_zero, List.getElem_cons_succ]
          refine' wpAnyH_take (i := 23) (v := _) rfl (by kernel_rfl) (by kernel_rfl) (by kernel_rfl) (fun _ _ _ h => h) (Or.inl ⟨by rfl, ?ly240⟩) (by assumption) ?lrest240
          case ly240 =>
            intro w hSw
            unfold S14 at hSw
            go_simp
            try with_reducible rfl
          try simp only [Act.put, List.setIfInBounds_toArray, List.set_cons_zero, List.set_cons_succ, List.getElem_toArray, List.getElem_cons_zero, List.getElem_cons_succ]
          refine wpAnyH_ready (rs := [24]) (by kernel_rfl) (by simp) ?_
          refine AllReadyH.cons rfl (fun K hK => ?_) AllReadyH.nil
          go_simp
          refine (HWK.out _ hk.bel).mono ?_
          rintro r9 w9 ⟨rfl, gq⟩
          have hk := hk.step gq
          refine hK.out _ _ hk.S (fun hHeld => ?_)
          clear hK K
          try simp only [Act.put, List.setIfInBounds_toArray, List.set_cons_zero, List.set_cons_succ, List.getElem_toArray, List.getElem_cons_zero, List.getElem_cons_succ]
          refine' wpAnyH_take (i := 25) (v := _) rfl (by kernel_rfl) (by kernel_rfl) (by kernel_rfl) (fun _ _ _ h => h) (Or.inl ⟨by rfl, ?ly242⟩) (by assumption) ?lrest242
          case ly242 =>
            intro w hSw
            unfold S14 at hSw
            go_simp
            try with_reducible rfl
          try simp only [Act.put, List.setIfInBounds_toArray, List.set_cons_zero, List.set_cons_succ, List.getElem_toArray, List.getElem_cons_zero, List.getElem_cons_succ]
          refine' wpAnyH_take (i := 26) (v := _) rfl (by kernel_rfl) (by kernel_rfl) (by kernel_rfl) (fun _ _ _ h => h) (Or.inl ⟨by rfl, ?ly243⟩) (by assumption) ?lrest243
          case ly243 =>
            intro w hSw
            unfold S14 at hSw
            go_simp
            try with_reducible rfl
          try simp only [Act.put, List.setIfInBounds_toArray, List.set_cons_zero, List.set_cons_succ, List.getElem_toArray, List.getElem_cons_zero, List.getElem_cons_succ]
          refine wpAnyH_done (by kernel_rfl) ?_ _
          go_wp2_with fail
          go_ret
          exact ⟨rfl, hk.bel⟩
    · subst dj
      have z2 : ((r3 : Int) == (q3 : Int)) = false := by simp; omega
      clear dk
      have dj : ah ≠ bh ∨ (ah = bh ∧ al ≠ bl) := by
        rcases Nat.decEq ah bh with h | h
        · exact Or.inl h
        · exact Or.inr ⟨h, fun h' => hlt ⟨h, h'⟩⟩
      clear hlt
      rcases dj with dj | ⟨dj, dk⟩
      · have z1 : ((ah : Int) == (bh : Int)) = false := by simp; omega
        clear dj
        cases L1 with
        | false =>
          cases L2 with
          | false => exact absurd hls (by decide)
          | true =>
            clear hls
            refine wp_region_held_drew (S := S14 false w.heap.size (w.heap.size + 1) q r ah al bh bl r2 q3 r2 r3 NN) (by kernel_rfl) hk.S (fun hHeld => ?_)
            refine' wpAnyH_take (i := 0) (v := _) rfl (by kernel_rfl) (by kernel_rfl) (by kernel_rfl) (fun _ _ _ h => h) (Or.inl ⟨by rfl, ?ly244⟩) (by assumption) ?lrest244
            case ly244 =>
              intro w hSw
              unfold S14 at hSw
              go_simp
              try with_reducible rfl
            try simp only [Act.put, List.setIfInBounds_toArray, List.set_cons_zero, List.set_cons_succ, List.getElem_toArray, List.getElem_cons_zero, List.getElem_cons_succ]
            refine' wpAnyH_take (i := 1) (v := _) rfl (by kernel_rfl) (by kernel_rfl) (by kernel_rfl) (fun _ _ _ h => h) (Or.inl ⟨by rfl, ?ly245⟩) (by assumption) ?lrest245
            case ly245 =>
              intro w hSw
              unfold S14 at hSw
              go_simp
              try with_reducible rfl
            try simp only [Act.put, List.setIfInBounds_toArray, List.set_cons_zero, List.set_cons_succ, List.getElem_toArray, List.getElem_cons_zero, List.getElem_cons_succ]
            refine' wpAnyH_take (i := 3) (v := _) rfl (by kernel_rfl) (by kernel_rfl) (by kernel_rfl) (fun _ _ _ h => h) (Or.inl ⟨by rfl, ?ly246⟩) (by assumption) ?lrest246
            case ly246 =>
              intro w hSw
              unfold S14 at hSw
              go_simp
              try with_reducible rfl
            try simp only [Act.put, List.setIfInBounds_toArray, List.set_cons_zero, List.set_cons_succ, List.getElem_toArray, List.getElem_cons_zero, List.getElem_cons_succ]
            refine' wpAnyH_take (i := 4) (v := _) rfl (by kernel_rfl) (by kernel_rfl) (by kernel_rfl) (fun _ _ _ h => h) (Or.inl ⟨by rfl, ?ly247⟩) (by assumption) ?lrest247
            case ly247 =>
              intro w hSw
              unfold S14 at hSw
              go_simp
              try with_reducible rfl
            try simp only [Act.put, List.setIfInBounds_toArray, List.set_cons_zero, List.set_cons_succ, List.getElem_toArray, List.getElem_cons_zero, List.getElem_cons_succ]
            refine' wpAnyH_take (i := 5) (v := _) rfl (by kernel_rfl) (by kernel_rfl) (by kernel_rfl) (fun _ _ _ h => h) (Or.inl ⟨by rfl, ?ly248⟩) (by assumption) ?lrest248
            case ly248 =>
              intro w hSw
              unfold S14 at hSw
              go_simp
              try with_reducible rfl
            try simp only [Act.put, List.setIfInBounds_toArray, List.set_cons_zero, List.set_cons_succ, List.getElem_toArray, List.getElem_cons_zero, List.getElem_cons_succ]
            refine wpAnyH_ready (rs := [2]) (by kernel_rfl) (by simp) ?_
            refine AllReadyH.cons rfl (fun K hK => ?_) AllReadyH.nil
            go_simp
            refine (HG3.out _).mono ?_
            rintro r9 w9 ⟨rfl, gq⟩
            have hk := hk.step gq
            refine hK.out _ _ hk.S (fun hHeld => ?_)
            clear hK K
            try simp only [Act.put, List.setIfInBounds_toArray, List.set_cons_zero, List.set_cons_succ, List.getElem_toArray, List.getElem_cons_zero, List.getElem_cons_succ]
            refine' wpAnyH_take (i := 6) (v := _) rfl (by kernel_rfl) (by kernel_rfl) (by kernel_rfl) (fun _ _ _ h => h) (Or.inl ⟨by rfl, ?ly250⟩) (by assumption) ?lrest250
            case ly250 =>
              intro w hSw
              unfold S14 at hSw
              go_simp
              try with_reducible rfl
            try simp only [Act.put, List.setIfInBounds_toArray, List.set_cons_zero, List.set_cons_succ, List.getElem_toArray, List.getElem_cons_zero, List.getElem_cons_succ]
            refine' wpAnyH_take (i := 7) (v := _) rfl (by kernel_rfl) (by kernel_rfl) (by kernel_rfl) (fun _ _ _ h => h) (Or.inl ⟨by rfl, ?ly251⟩) (by assumption) ?lrest251
            case ly251 =>
              intro w hSw
              unfold S14 at hSw
              go_simp
              try with_reducible rfl
            try simp only [Act.put, List.setIfInBounds_toArray, List.set_cons_zero, List.set_cons_succ, List.getElem_toArray, List.getElem_cons_zero, List.getElem_cons_succ]
            refine' wpAnyH_take (i := 8) (v := _) rfl (by kernel_rfl) (by kernel_rfl) (by kernel_rfl) (fun _ _ _ h => h) (Or.inl ⟨by rfl, ?ly252⟩) (by assumption) ?lrest252
            case ly252 =>
              intro w hSw
              unfold S14 at hSw
              go_simp
              try with_reducible rfl
            try simp only [Act.put, List.setIfInBounds_toArray, List.set_cons_zero, List.set_cons_succ, List.getElem_toArray, List.getElem_cons_zero, List.getElem_cons_succ]
            refine' wpAnyH_take (i := 9) (v := _) rfl (by kernel_rfl) (by kernel_rfl) (by kernel_rfl) (fun _ _ _ h => h) (Or.inl ⟨by rfl, ?ly253⟩) (by assumption) ?lrest253
            case ly253 =>
              intro w hSw
              unfold S14 at hSw
              go_simp
              try with_reducible rfl
            try simp only [Act.put, List.setIfInBounds_toArray, List.set_cons_zero, List.set_cons_succ, List.getElem_toArray, List.getElem_cons_zero, List.getElem_cons_succ]
            refine' wpAnyH_take (i := 10) (v := _) rfl (by kernel_rfl) (by kernel_rfl) (by kernel_rfl) (fun _ _ _ h => h) (Or.inl ⟨by rfl, ?ly254⟩) (by assumption) ?lrest254
            case ly254 =>
              intro w hSw
              unfold S14 at hSw
              go_simp
              try with_reducible rfl
            try simp only [Act.put, List.setIfInBounds_toArray, List.set_cons_zero, List.set_cons_succ, List.getElem_toArray, List.getElem_cons_zero, List.getElem_cons_succ]
            refine' wpAnyH_take (i := 11) (v := _) rfl (by kernel_rfl) (by kernel_rfl) (by kernel_rfl) (fun _ _ _ h => h) (Or.inl ⟨by rfl, ?ly255⟩) (by assumption) ?lrest255
            case ly255 =>
              intro w hSw
              unfold S14 at hSw
              go_simp
              try with_reducible rfl
            try simp only [Act.put, List.setIfInBounds_toArray, List.set_cons_zero, List.set_cons_succ, List.getElem_toArray, List.getElem_cons_zero, List.getElem_cons_succ]
            refine' wpAnyH_take (i := 12) (v := _) rfl (by kernel_rfl) (by kernel_rfl) (by kernel_rfl) (fun _ _ _ h => h) (Or.inl ⟨by rfl, ?ly256⟩) (by assumption) ?lrest256
            case ly256 =>
              intro w hSw
              unfold S14 at hSw
              go_simp
              try with_reducible rfl
            try simp only [Act.put, List.setIfInBounds_toArray, List.set_cons_zero, List.set_cons_succ, List.getElem_toArray, List.getElem_cons_zero, List.getElem_cons_succ]
            refine wpAnyH_ready (rs := [13]) (by kernel_rfl) (by simp) ?_
            refine AllReadyH.cons rfl (fun K hK => ?_) AllReadyH.nil
            go_simp
            refine (HL1.out _).mono ?_
            rintro r9 w9 ⟨rfl, gq⟩
            have hk := hk.step gq
            refine hK.out _ _ hk.S (fun hHeld => ?_)
            clear hK K
            try simp only [Act.put, List.setIfInBounds_toArray, List.set_cons_zero, List.set_cons_succ, List.getElem_toArray, List.getElem_cons_zero, List.getElem_cons_succ]
            refine' wpAnyH_take (i := 14) (v := _) rfl (by kernel_rfl) (by kernel_rfl) (by kernel_rfl) (fun _ _ _ h => h) (Or.inl ⟨by rfl, ?ly258⟩) (by assumption) ?lrest258
            case ly258 =>
              intro w hSw
              unfold S14 at hSw
              go_simp
              try with_reducible rfl
            try simp only [Act.put, List.setIfInBounds_toArray, List.set_cons_zero, List.set_cons_succ, List.getElem_toArray, List.getElem_cons_zero, List.getElem_cons_succ]
            refine' wpAnyH_take (i := 15) (v := _) rfl (by kernel_rfl) (by kernel_rfl) (by kernel_rfl) (fun _ _ _ h => h) (Or.inl ⟨by rfl, ?ly259⟩) (by assumption) ?lrest259
            case ly259 =>
              intro w hSw
              unfold S14 at hSw
              go_simp
              try with_reducible rfl
            try simp only [Act.put, List.setIfInBounds_toArray, List.set_cons_zero, List.set_cons_succ, List.getElem_toArray, List.getElem_cons_zero, List.getElem_cons_succ]
            refine' wpAnyH_take (i := 16) (v := _) rfl (by kernel_rfl) (by kernel_rfl) (by kernel_rfl) (fun _ _ _ h => h) (Or.inl ⟨by rfl, ?ly260⟩) (by assumption) ?lrest260
            case ly260 =>
              intro w hSw
              unfold S14 at hSw
              go_simp
              try with_reducible rfl
            try simp only [Act.put, List.setIfInBounds_toArray, List.set_cons_zero, List.set_cons_succ, List.getElem_toArray, List.getElem_cons_zero, List.getElem_cons_succ]
            refine' wpAnyH_take (i := 17) (v := _) rfl (by kernel_rfl) (by kernel_rfl) (by kernel_rfl) (fun _ _ _ h => h) (Or.inl ⟨by rfl, ?ly261⟩) (by assumption) ?lrest261
            case ly261 =>
              intro w hSw
              unfold S14 at hSw
              go_simp
              try with_reducible rfl
            try simp only [Act.put, List.setIfInBounds_toArray, List.set_cons_zero, List.set_cons_succ, List.getElem_toArray, List.getElem_cons_zero, List.getElem_cons_succ]
            refine wpAnyH_ready (rs := [18]) (by kernel_rfl) (by simp) ?_
            refine AllReadyH.cons rfl (fun K hK => ?_) AllReadyH.nil
            go_simp
            refine (HL2.out _).mono ?_
            rintro r9 w9 ⟨rfl, gq⟩
            have hk := hk.step gq
            refine hK.out _ _ hk.S (fun hHeld => ?_)
            clear hK K
            try simp only [Act.put, List.setIfInBounds_toArray, List.set_cons_zero, List.set_cons_succ, List.getElem_toArray, List.getElem_cons_zero, List.getElem_cons_succ]
            refine' wpAnyH_take (i := 19) (v := _) rfl (by kernel_rfl) (by kernel_rfl) (by kernel_rfl) (fun _ _ _ h => h) (Or.inl ⟨by rfl, ?ly263⟩) (by assumption) ?lrest263
            case ly263 =>
              intro w hSw
              unfold S14 at hSw
              go_simp
              try with_reducible rfl
            try simp only [Act.put, List.setIfInBounds_toArray, List.set_cons_zero, List.set_cons_succ, List.getElem_toArray, List.getElem_cons_zero, List.getElem_cons_succ]
            refine' wpAnyH_take (i := 20) (v := _) rfl (by kernel_rfl) (by kernel_rfl) (by kernel_rfl) (fun _ _ _ h => h) (Or.inl ⟨by rfl, ?ly264⟩) (by assumption) ?lrest264
            case ly264 =>
              intro w hSw
              unfold S14 at hSw
              go_simp
              try with_reducible rfl
            try simp only [Act.put, List.setIfInBounds_toArray, List.set_cons_zero, List.set_cons_succ, List.getElem_toArray, List.getElem_cons_zero, List.getElem_cons_succ]
            refine' wpAnyH_take (i := 21) (v := _) rfl (by kernel_rfl) (by kernel_rfl) (by kernel_rfl) (fun _ _ _ h => h) (Or.inl ⟨by rfl, ?ly265⟩) (by assumption) ?lrest265
            case ly265 =>
              intro w hSw
              unfold S14 at hSw
              go_simp
              try with_reducible rfl
            try simp only [Act.put, List.setIfInBounds_toArray, List.set_cons_zero, List.set_cons_succ, List.getElem_toArray, List.getElem_cons_zero, List.getElem_cons_succ]
            refine' wpAnyH_take (i := 22) (v := _) rfl (by kernel_rfl) (by kernel_rfl) (by kernel_rfl) (fun _ _ _ h => h) (Or.inl ⟨by rfl, ?ly266⟩) (by assumption) ?lrest266
            case ly266 =>
              intro w hSw
              unfold S14 at hSw
              go_simp
              try with_reducible rfl
            try simp only [Act.put, List.setIfInBounds_toArray, List.set_cons_zero, List.set_cons_succ, List.getElem_toArray, List.getElem_cons_zero, List.getElem_cons_succ]
            refine' wpAnyH_take (i := 23) (v := _) rfl (by kernel_rfl) (by kernel_rfl) (by kernel_rfl) (fun _ _ _ h => h) (Or.inl ⟨by rfl, ?ly267⟩) (by assumption) ?lrest267
            case ly267 =>
              intro w hSw
              unfold S14 at hSw
              go_simp
              try with_reducible rfl
            try simp only [Act.put, List.setIfInBounds_toArray, List.set_cons_zero, List.set_cons_succ, List.getElem_toArray, List.getElem_cons_zero, List.getElem_cons_succ]
            refine wpAnyH_ready (rs := [24]) (by kernel_rfl) (by simp) ?_
            refine AllReadyH.cons rfl (fun K hK => ?_) AllReadyH.nil
            go_simp
            refine (HWK.out _ hk.bel).mono ?_
            rintro r9 w9 ⟨rfl, gq⟩
            have hk := hk.step gq
            refine hK.out _ _ hk.S (fun hHeld => ?_)
            clear hK K
            try simp only [Act.put, List.setIfInBounds_toArray, List.set_cons_zero, List.set_cons_succ, List.getElem_toArray, List.getElem_cons_zero, List.getElem_cons_succ]
            refine' wpAnyH_take (i := 25) (v := _) rfl (by kernel_rfl) (by kernel_rfl) (by kernel_rfl) (fun _ _ _ h => h) (Or.inl ⟨by rfl, ?ly269⟩) (by assumption) ?lrest269
            case ly269 =>
              intro w hSw
              unfold S14 at hSw
              go_simp
              try with_reducible rfl
            try simp only [Act.put, List.setIfInBounds_toArray, List.set_cons_zero, List.set_cons_succ, List.getElem_toArray, List.getElem_cons_zero, List.getElem_cons_succ]
            refine' wpAnyH_take (i := 26) (v := _) rfl (by kernel_rfl) (by kernel_rfl) (by kernel_rfl) (fun _ _ _ h => h) (Or.inl ⟨by rfl, ?ly270⟩) (by assumption) ?lrest270
            case ly270 =>
              intro w hSw
              unfold S14 at hSw
              go_simp
              try with_reducible rfl
            try simp only [Act.put, List.setIfInBounds_toArray, List.set_cons_zero, List.set_cons_succ, List.getElem_toArray, List.getElem_cons_zero, List.getElem_cons_succ]
            refine wpAnyH_done (by kernel_rfl) ?_ _
            go_wp2_with fail
            go_ret
            exact ⟨rfl, hk.bel⟩
        | true =>
          clear hls
          refine wp_region_held_drew (S := S14 false w.heap.size (w.heap.size + 1) q r ah al bh bl r2 q3 r2 r3 NN) (by kernel_rfl) hk.S (fun hHeld => ?_)
          refine' wpAnyH_take (i := 0) (v := _) rfl (by kernel_rfl) (by kernel_rfl) (by kernel_rfl) (fun _ _ _ h => h) (Or.inl ⟨by rfl, ?ly271⟩) (by assumption) ?lrest271
          case ly271 =>
            intro w hSw
            unfold S14 at hSw
            go_simp
            try with_reducible rfl
          try simp only [Act.put, List.setIfInBounds_toArray, List.set_cons_zero, List.set_cons_succ, List.getElem_toArray, List.getElem_cons_zero, List.getElem_cons_succ]
          refine' wpAnyH_take (i := 1) (v := _) rfl (by kernel_rfl) (by kernel_rfl) (by kernel_rfl) (fun _ _ _ h => h) (Or.inl ⟨by rfl, ?ly272⟩) (by assumption) ?lrest272
          case ly272 =>
            intro w hSw
            unfold S14 at hSw
            go_simp
            try with_reducible rfl
          try simp only [Act.put, List.setIfInBounds_toArray, List.set_cons_zero, List.set_cons_succ, List.getElem_toArray, List.getElem_cons_zero, List.getElem_cons_succ]
          refine' wpAnyH_take (i := 3) (v := _) rfl (by kernel_rfl) (by kernel_rfl) (by kernel_rfl) (fun _ _ _ h => h) (Or.inl ⟨by rfl, ?ly273⟩) (by assumption) ?lrest273
          case ly273 =>
            intro w hSw
            unfold S14 at hSw
            go_simp
            try with_reducible rfl
          try simp only [Act.put, List.setIfInBounds_toArray, List.set_cons_zero, List.set_cons_succ, List.getElem_toArray, List.getElem_cons_zero, List.getElem_cons_succ]
          refine' wpAnyH_take (i := 4) (v := _) rfl (by kernel_rfl) (by kernel_rfl) (by kernel_rfl) (fun _ _ _ h => h) (Or.inl ⟨by rfl, ?ly274⟩) (by assumption) ?lrest274
          case ly274 =>
            intro w hSw
            unfold S14 at hSw
            go_simp
            try with_reducible rfl
          try simp only [Act.put, List.setIfInBounds_toArray, List.set_cons_zero, List.set_cons_succ, List.getElem_toArray, List.getElem_cons_zero, List.getElem_cons_succ]
          refine' wpAnyH_take (i := 5) (v := _) rfl (by kernel_rfl) (by kernel_rfl) (by kernel_rfl) (fun _ _ _ h => h) (Or.inl ⟨by rfl, ?ly275⟩) (by assumption) ?lrest275
          case ly275 =>
            intro w hSw
            unfold S14 at hSw
            go_simp
            try with_reducible rfl
          try simp only [Act.put, List.setIfInBounds_toArray, List.set_cons_zero, List.set_cons_succ, List.getElem_toArray, List.getElem_cons_zero, List.getElem_cons_succ]
          refine wpAnyH_ready (rs := [2]) (by kernel_rfl) (by simp) ?_
          refine AllReadyH.cons rfl (fun K hK => ?_) AllReadyH.nil
          go_simp
          refine (HG3.out _).mono ?_
          rintro r9 w9 ⟨rfl, gq⟩
          have hk := hk.step gq
          refine hK.out _ _ hk.S (fun hHeld => ?_)
          clear hK K
          try simp only [Act.put, List.setIfInBounds_toArray, List.set_cons_zero, List.set_cons_succ, List.getElem_toArray, List.getElem_cons_zero, List.getElem_cons_succ]
          refine' wpAnyH_take (i := 6) (v := _) rfl (by kernel_rfl) (by kernel_rfl) (by kernel_rfl) (fun _ _ _ h => h) (Or.inl ⟨by rfl, ?ly277⟩) (by assumption) ?lrest277
          case ly277 =>
            intro w hSw
            unfold S14 at hSw
            go_simp
            try with_reducible rfl
          try simp only [Act.put, List.setIfInBounds_toArray, List.set_cons_zero, List.set_cons_succ, List.getElem_toArray, List.getElem_cons_zero, List.getElem_cons_succ]
          refine' wpAnyH_take (i := 7) (v := _) rfl (by kernel_rfl) (by kernel_rfl) (by kernel_rfl) (fun _ _ _ h => h) (Or.inl ⟨by rfl, ?ly278⟩) (by assumption) ?lrest278
          case ly278 =>
            intro w hSw
            unfold S14 at hSw
            go_simp
            try with_reducible rfl
          try simp only [Act.put, List.setIfInBounds_toArray, List.set_cons_zero, List.set_cons_succ, List.getElem_toArray, List.getElem_cons_zero, List.getElem_cons_succ]
          refine' wpAnyH_take (i := 8) (v := _) rfl (by kernel_rfl) (by kernel_rfl) (by kernel_rfl) (fun _ _ _ h => h) (Or.inl ⟨by rfl, ?ly279⟩) (by assumption) ?lrest279
          case ly279 =>
            intro w hSw
            unfold S14 at hSw
            go_simp
            try with_reducible rfl
          try simp only [Act.put, List.setIfInBounds_toArray, List.set_cons_zero, List.set_cons_succ, List.getElem_toArray, List.getElem_cons_zero, List.getElem_cons_succ]
          refine' wpAnyH_take (i := 9) (v := _) rfl (by kernel_rfl) (by kernel_rfl) (by kernel_rfl) (fun _ _ _ h => h) (Or.inl ⟨by rfl, ?ly280⟩) (by assumption) ?lrest280
          case ly280 =>
            intro w hSw
            unfold S14 at hSw
            go_simp
            try with_reducible rfl
          try simp only [Act.put, List.setIfInBounds_toArray, List.set_cons_zero, List.set_cons_succ, List.getElem_toArray, List.getElem_cons_zero, List.getElem_cons_succ]
          refine' wpAnyH_take (i := 10) (v := _) rfl (by kernel_rfl) (by kernel_rfl) (by kernel_rfl) (fun _ _ _ h => h) (Or.inl ⟨by rfl, ?ly281⟩) (by assumption) ?lrest281
          case ly281 =>
            intro w hSw
            unfold S14 at hSw
            go_simp
            try with_reducible rfl
          try simp only [Act.put, List.setIfInBounds_toArray, List.set_cons_zero, List.set_cons_succ, List.getElem_toArray, List.getElem_cons_zero, List.getElem_cons_succ]
          refine' wpAnyH_take (i := 11) (v := _) rfl (by kernel_rfl) (by kernel_rfl) (by kernel_rfl) (fun _ _ _ h => h) (Or.inl ⟨by rfl, ?ly282⟩) (by assumption) ?lrest282
          case ly282 =>
            intro w hSw
            unfold S14 at hSw
            go_simp
            try with_reducible rfl
          try simp only [Act.put, List.setIfInBounds_toArray, List.set_cons_zero, List.set_cons_succ, List.getElem_toArray, List.getElem_cons_zero, List.getElem_cons_succ]
          refine' wpAnyH_take (i := 12) (v := _) rfl (by kernel_rfl) (by kernel_rfl) (by kernel_rfl) (fun _ _ _ h => h) (Or.inl ⟨by rfl, ?ly283⟩) (by assumption) ?lrest283
          case ly283 =>
            intro w hSw
            unfold S14 at hSw
            go_simp
            try with_reducible rfl
          try simp only [Act.put, List.setIfInBounds_toArray, List.set_cons_zero, List.set_cons_succ, List.getElem_toArray, List.getElem_cons_zero, List.getElem_cons_succ]
          refine wpAnyH_ready (rs := [13]) (by kernel_rfl) (by simp) ?_
          refine AllReadyH.cons rfl (fun K hK => ?_) AllReadyH.nil
          go_simp
          refine (HL1.out _).mono ?_
          rintro r9 w9 ⟨rfl, gq⟩
          have hk := hk.step gq
          refine hK.out _ _ hk.S (fun hHeld => ?_)
          clear hK K
          try simp only [Act.put, List.setIfInBounds_toArray, List.set_cons_zero, List.set_cons_succ, List.getElem_toArray, List.getElem_cons_zero, List.getElem_cons_succ]
          refine' wpAnyH_take (i := 14) (v := _) rfl (by kernel_rfl) (by kernel_rfl) (by kernel_rfl) (fun _ _ _ h => h) (Or.inl ⟨by rfl, ?ly285⟩) (by assumption) ?lrest285
          case ly285 =>
            intro w hSw
            unfold S14 at hSw
            go_simp
            try with_reducible rfl
          try simp only [Act.put, List.setIfInBounds_toArray, List.set_cons_zero, List.set_cons_succ, List.getElem_toArray, List.getElem_cons_zero, List.getElem_cons_succ]
          refine' wpAnyH_take (i := 15) (v := _) rfl (by kernel_rfl) (by kernel_rfl) (by kernel_rfl) (fun _ _ _ h => h) (Or.inl ⟨by rfl, ?ly286⟩) (by assumption) ?lrest286
          case ly286 =>
            intro w hSw
            unfold S14 at hSw
            go_simp
            try with_reducible rfl
          try simp only [Act.put, List.setIfInBounds_toArray, List.set_cons_zero, List.set_cons_succ, List.getElem_toArray, List.getElem_cons_zero, List.getElem_cons_succ]
          refine' wpAnyH_take (i := 16) (v := undef) rfl (by kernel_rfl) (by kernel_rfl) (by kernel_rfl) (fun _ _ _ h => h) (Or.inr ⟨by rfl, rfl⟩) (by assumption) ?lrest287
          try simp only [Act.put, List.setIfInBounds_toArray, List.set_cons_zero, List.set_cons_succ, List.getElem_toArray, List.getElem_cons_zero, List.getElem_cons_succ]
          refine' wpAnyH_take (i := 17) (v := undef) rfl (by kernel_rfl) (by kernel_rfl) (by kernel_rfl) (fun _ _ _ h => h) (Or.inr ⟨by rfl, rfl⟩) (by assumption) ?lrest288
          try simp only [Act.put, List.setIfInBounds_toArray, List.set_cons_zero, List.set_cons_succ, List.getElem_toArray, List.getElem_cons_zero, List.getElem_cons_succ]
          refine' wpAnyH_take (i := 18) (v := undef) rfl (by kernel_rfl) (by kernel_rfl) (by kernel_rfl) (fun _ _ _ h => h) (Or.inr ⟨by rfl, rfl⟩) (by assumption) ?lrest289
          try simp only [Act.put, List.setIfInBounds_toArray, List.set_cons_zero, List.set_cons_succ, List.getElem_toArray, List.getElem_cons_zero, List.getElem_cons_succ]
          refine' wpAnyH_take (i := 19) (v := undef) rfl (by kernel_rfl) (by kernel_rfl) (by kernel_rfl) (fun _ _ _ h => h) (Or.inr ⟨by rfl, rfl⟩) (by assumption) ?lrest290
          try simp only [Act.put, List.setIfInBounds_toArray, List.set_cons_zero, List.set_cons_succ, List.getElem_toArray, List.getElem_cons_zero, List.getElem_cons_succ]
          refine' wpAnyH_take (i := 20) (v := _) rfl (by kernel_rfl) (by kernel_rfl) (by kernel_rfl) (fun _ _ _ h => h) (Or.inl ⟨by rfl, ?ly291⟩) (by assumption) ?lrest291
          case ly291 =>
            intro w hSw
            unfold S14 at hSw
            go_simp
            try with_reducible rfl
          try simp only [Act.put, List.setIfInBounds_toArray, List.set_cons_zero, List.set_cons_succ, List.getElem_toArray, List.getElem_cons_zero, List.getElem_cons_succ]
          refine' wpAnyH_take (i := 21) (v := _) rfl (by kernel_rfl) (by kernel_rfl) (by kernel_rfl) (fun _ _ _ h => h) (Or.inl ⟨by rfl, ?ly292⟩) (by assumption) ?lrest292
          case ly292 =>
            intro w hSw
            unfold S14 at hSw
            go_simp
            try with_reducible rfl
          try simp only [Act.put, List.setIfInBounds_toArray, List.set_cons_zero, List.set_cons_succ, List.getElem_toArray, List.getElem_cons_zero, List.getElem_cons_succ]
          refine' wpAnyH_take (i := 22) (v := _) rfl (by kernel_rfl) (by kernel_rfl) (by kernel_rfl) (fun _ _ _ h => h) (Or.inl ⟨by rfl, ?ly293⟩) (by assumption) ?lrest293
          case ly293 =>
            intro w hSw
            unfold S14 at hSw
            go_simp
            try with_reducible rfl
          try simp only [Act.put, List.setIfInBounds_toArray, List.set_cons_zero, List.set_cons_succ, List.getElem_toArray, List.getElem_cons_zero, List.getElem_cons_succ]
          refine' wpAnyH_take (i := 23) (v := _) rfl (by kernel_rfl) (by kernel_rfl) (by kernel_rfl) (fun _ _ _ h => h) (Or.inl ⟨by rfl, ?ly294⟩) (by assumption) ?lrest294
          case ly294 =>
            intro w hSw
            unfold S14 at hSw
            go_simp
            try with_reducible rfl
          try simp only [Act.put, List.setIfInBounds_toArray, List.set_cons_zero, List.set_cons_succ, List.getElem_toArray, List.getElem_cons_zero, List.getElem_cons_succ]
          refine wpAnyH_ready (rs := [24]) (by kernel_rfl) (by simp) ?_
          refine AllReadyH.cons rfl (fun K hK => ?_) AllReadyH.nil
          go_simp
          refine (HWK.out _ hk.bel).mono ?_
          rintro r9 w9 ⟨rfl, gq⟩
          have hk := hk.step gq
          refine hK.out _ _ hk.S (fun hHeld => ?_)
          clear hK K
          try simp only [Act.put, List.setIfInBounds_toArray, List.set_cons_zero, List.set_cons_succ, List.getElem_toArray, List.getElem_cons_zero, List.getElem_cons_succ]
          refine' wpAnyH_take (i := 25) (v := _) rfl (by kernel_rfl) (by kernel_rfl) (by kernel_rfl) (fun _ _ _ h => h) (Or.inl ⟨by rfl, ?ly296⟩) (by assumption) ?lrest296
          case ly296 =>
            intro w hSw
            unfold S14 at hSw
            go_simp
            try with_reducible rfl
          try simp only [Act.put, List.setIfInBounds_toArray, List.set_cons_zero, List.set_cons_succ, List.getElem_toArray, List.getElem_cons_zero, List.getElem_cons_succ]
          refine' wpAnyH_take (i := 26) (v := _) rfl (by kernel_rfl) (by kernel_rfl) (by kernel_rfl) (fun _ _ _ h => h) (Or.inl ⟨by rfl, ?ly297⟩) (by assumption) ?lrest297
          case ly297 =>
            intro w hSw
            unfold S14 at hSw
            go_simp
            try with_reducible rfl
          try simp only [Act.put, List.setIfInBounds_toArray, List.set_cons_zero, List.set_cons_succ, List.getElem_toArray, List.getElem_cons_zero, List.getElem_cons_succ]
          refine wpAnyH_done (by kernel_rfl) ?_ _
          go_wp2_with fail
          go_ret
          exact ⟨rfl, hk.bel⟩
      · subst dj
        have z2 : ((al : Int) == (bl : Int)) = false := by simp; omega
        clear dk
        cases L1 with
        | false =>
          cases L2 with
          | false => exact absurd hls (by decide)
          | true =>
            clear hls
            refine wp_region_held_drew (S := S14 false w.heap.size (w.heap.size + 1) q r ah al ah bl r2 q3 r2 r3 NN) (by kernel_rfl) hk.S (fun hHeld => ?_)
            refine' wpAnyH_take (i := 0) (v := _) rfl (by kernel_rfl) (by kernel_rfl) (by kernel_rfl) (fun _ _ _ h => h) (Or.inl ⟨by rfl, ?ly298⟩) (by assumption) ?lrest298
            case ly298 =>
              intro w hSw
              unfold S14 at hSw
              go_simp
              try with_reducible rfl
            try simp only [Act.put, List.setIfInBounds_toArray, List.set_cons_zero, List.set_cons_succ, List.getElem_toArray, List.getElem_cons_zero, List.getElem_cons_succ]
            refine' wpAnyH_take (i := 1) (v := _) rfl (by kernel_rfl) (by kernel_rfl) (by kernel_rfl) (fun _ _ _ h => h) (Or.inl ⟨by rfl, ?ly299⟩) (by assumption) ?lrest299
            case ly299 =>
              intro w hSw
              unfold S14 at hSw
              go_simp
              try with_reducible rfl
            try simp only [Act.put, List.setIfInBounds_toArray, List.set_cons_zero, List.set_cons_succ, List.getElem_toArray, List.getElem_cons_zero, List.getElem_cons_succ]
            refine' wpAnyH_take (i := 3) (v := _) rfl (by kernel_rfl) (by kernel_rfl) (by kernel_rfl) (fun _ _ _ h => h) (Or.inl ⟨by rfl, ?ly300⟩) (by assumption) ?lrest300
            case ly300 =>
              intro w hSw
              unfold S14 at hSw
              go_simp
              try with_reducible rfl
            try simp only [Act.put, List.setIfInBounds_toArray, List.set_cons_zero, List.set_cons_succ, List.getElem_toArray, List.getElem_cons_zero, List.getElem_cons_succ]
            refine' wpAnyH_take (i := 4) (v := _) rfl (by kernel_rfl) (by kernel_rfl) (by kernel_rfl) (fun _ _ _ h => h) (Or.inl ⟨by rfl, ?ly301⟩) (by assumption) ?lrest301
            case ly301 =>
              intro w hSw
              unfold S14 at hSw
              go_simp
              try with_reducible rfl
            try simp only [Act.put, List.setIfInBounds_toArray, List.set_cons_zero, List.set_cons_succ, List.getElem_toArray, List.getElem_cons_zero, List.getElem_cons_succ]
            refine' wpAnyH_take (i := 5) (v := _) rfl (by kernel_rfl) (by kernel_rfl) (by kernel_rfl) (fun _ _ _ h => h) (Or.inl ⟨by rfl, ?ly302⟩) (by assumption) ?lrest302
            case ly302 =>
              intro w hSw
              unfold S14 at hSw
              go_simp
              try with_reducible rfl
            try simp only [Act.put, List.setIfInBounds_toArray, List.set_cons_zero, List.set_cons_succ, List.getElem_toArray, List.getElem_cons_zero, List.getElem_cons_succ]
            refine wpAnyH_ready (rs := [2]) (by kernel_rfl) (by simp) ?_
            refine AllReadyH.cons rfl (fun K hK => ?_) AllReadyH.nil
            go_simp
            refine (HG3.out _).mono ?_
            rintro r9 w9 ⟨rfl, gq⟩
            have hk := hk.step gq
            refine hK.out _ _ hk.S (fun hHeld => ?_)
            clear hK K
            try simp only [Act.put, List.setIfInBounds_toArray, List.set_cons_zero, List.set_cons_succ, List.getElem_toArray, List.getElem_cons_zero, List.getElem_cons_succ]
            refine' wpAnyH_take (i := 6) (v := _) rfl (by kernel_rfl) (by kernel_rfl) (by kernel_rfl) (fun _ _ _ h => h) (Or.inl ⟨by rfl, ?ly304⟩) (by assumption) ?lrest304
            case ly304 =>
              intro w hSw
              unfold S14 at hSw
              go_simp
              try with_reducible rfl
            try simp only [Act.put, List.setIfInBounds_toArray, List.set_cons_zero, List.set_cons_succ, List.getElem_toArray, List.getElem_cons_zero, List.getElem_cons_succ]
            refine' wpAnyH_take (i := 7) (v := _) rfl (by kernel_rfl) (by kernel_rfl) (by kernel_rfl) (fun _ _ _ h => h) (Or.inl ⟨by rfl, ?ly305⟩) (by assumption) ?lrest305
            case ly305 =>
              intro w hSw
              unfold S14 at hSw
              go_simp
              try with_reducible rfl
            try simp only [Act.put, List.setIfInBounds_toArray, List.set_cons_zero, List.set_cons_succ, List.getElem_toArray, List.getElem_cons_zero, List.getElem_cons_succ]
            refine' wpAnyH_take (i := 8) (v := _) rfl (by kernel_rfl) (by kernel_rfl) (by kernel_rfl) (fun _ _ _ h => h) (Or.inl ⟨by rfl, ?ly306⟩) (by assumption) ?lrest306
            case ly306 =>
              intro w hSw
              unfold S14 at hSw
              go_simp
              try with_reducible rfl
            try simp only [Act.put, List.setIfInBounds_toArray, List.set_cons_zero, List.set_cons_succ, List.getElem_toArray, List.getElem_cons_zero, List.getElem_cons_succ]
            refine' wpAnyH_take (i := 9) (v := _) rfl (by kernel_rfl) (by kernel_rfl) (by kernel_rfl) (fun _ _ _ h => h) (Or.inl ⟨by rfl, ?ly307⟩) (by assumption) ?lrest307
            case ly307 =>
              intro w hSw
              unfold S14 at hSw
              go_simp
              try with_reducible rfl
            try simp only [Act.put, List.setIfInBounds_toArray, List.set_cons_zero, List.set_cons_succ, List.getElem_toArray, List.getElem_cons_zero, List.getElem_cons_succ]
            refine' wpAnyH_take (i := 10) (v := _) rfl (by kernel_rfl) (by kernel_rfl) (by kernel_rfl) (fun _ _ _ h => h) (Or.inl ⟨by rfl, ?ly308⟩) (by assumption) ?lrest308
            case ly308 =>
              intro w hSw
              unfold S14 at hSw
              go_simp
              try with_reducible rfl
            try simp only [Act.put, List.setIfInBounds_toArray, List.set_cons_zero, List.set_cons_succ, List.getElem_toArray, List.getElem_cons_zero, List.getElem_cons_succ]
            refine' wpAnyH_take (i := 11) (v := _) rfl (by kernel_rfl) (by kernel_rfl) (by kernel_rfl) (fun _ _ _ h => h) (Or.inl ⟨by rfl, ?ly309⟩) (by assumption) ?lrest309
            case ly309 =>
              intro w hSw
              unfold S14 at hSw
              go_simp
              try with_reducible rfl
            try simp only [Act.put, List.setIfInBounds_toArray, List.set_cons_zero, List.set_cons_succ, List.getElem_toArray, List.getElem_cons_zero, List.getElem_cons_succ]
            refine' wpAnyH_take (i := 12) (v := _) rfl (by kernel_rfl) (by kernel_rfl) (by kernel_rfl) (fun _ _ _ h => h) (Or.inl ⟨by rfl, ?ly310⟩) (by assumption) ?lrest310
            case ly310 =>
              intro w hSw
              unfold S14 at hSw
              go_simp
              try with_reducible rfl
            try simp only [Act.put, List.setIfInBounds_toArray, List.set_cons_zero, List.set_cons_succ, List.getElem_toArray, List.getElem_cons_zero, List.getElem_cons_succ]
            refine wpAnyH_ready (rs := [13]) (by kernel_rfl) (by simp) ?_
            refine AllReadyH.cons rfl (fun K hK => ?_) AllReadyH.nil
            go_simp
            refine (HL1.out _).mono ?_
            rintro r9 w9 ⟨rfl, gq⟩
            have hk := hk.step gq
            refine hK.out _ _ hk.S (fun hHeld => ?_)
            clear hK K
            try simp only [Act.put, List.setIfInBounds_toArray, List.set_cons_zero, List.set_cons_succ, List.getElem_toArray, List.getElem_cons_zero, List.getElem_cons_succ]
            refine' wpAnyH_take (i := 14) (v := _) rfl (by kernel_rfl) (by kernel_rfl) (by kernel_rfl) (fun _ _ _ h => h) (Or.inl ⟨by rfl, ?ly312⟩) (by assumption) ?lrest312
            case ly312 =>
              intro w hSw
              unfold S14 at hSw
              go_simp
              try with_reducible rfl
            try simp only [Act.put, List.setIfInBounds_toArray, List.set_cons_zero, List.set_cons_succ, List.getElem_toArray, List.getElem_cons_zero, List.getElem_cons_succ]
            refine' wpAnyH_take (i := 15) (v := _) rfl (by kernel_rfl) (by kernel_rfl) (by kernel_rfl) (fun _ _ _ h => h) (Or.inl ⟨by rfl, ?ly313⟩) (by assumption) ?lrest313
            case ly313 =>
              intro w hSw
              unfold S14 at hSw
              go_simp
              try with_reducible rfl
            try simp only [Act.put, List.setIfInBounds_toArray, List.set_cons_zero, List.set_cons_succ, List.getElem_toArray, List.getElem_cons_zero, List.getElem_cons_succ]
            refine' wpAnyH_take (i := 16) (v := _) rfl (by kernel_rfl) (by kernel_rfl) (by kernel_rfl) (fun _ _ _ h => h) (Or.inl ⟨by rfl, ?ly314⟩) (by assumption) ?lrest314
            case ly314 =>
              intro w hSw
              unfold S14 at hSw
              go_simp
              try with_reducible rfl
            try simp only [Act.put, List.setIfInBounds_toArray, List.set_cons_zero, List.set_cons_succ, List.getElem_toArray, List.getElem_cons_zero, List.getElem_cons_succ]
            refine' wpAnyH_take (i := 17) (v := _) rfl (by kernel_rfl) (by kernel_rfl) (by kernel_rfl) (fun _ _ _ h => h) (Or.inl ⟨by rfl, ?ly315⟩) (by assumption) ?lrest315
            case ly315 =>
              intro w hSw
              unfold S14 at hSw
              go_simp
              try with_reducible rfl
            try simp only [Act.put, List.setIfInBounds_toArray, List.set_cons_zero, List.set_cons_succ, List.getElem_toArray, List.getElem_cons_zero, List.getElem_cons_succ]
            refine wpAnyH_ready (rs := [18]) (by kernel_rfl) (by simp) ?_
            refine AllReadyH.cons rfl (fun K hK => ?_) AllReadyH.nil
            go_simp
            refine (HL2.out _).mono ?_
            rintro r9 w9 ⟨rfl, gq⟩
            have hk := hk.step gq
            refine hK.out _ _ hk.S (fun hHeld => ?_)
            clear hK K
            try simp only [Act.put, List.setIfInBounds_toArray, List.set_cons_zero, List.set_cons_succ, List.getElem_toArray, List.getElem_cons_zero, List.getElem_cons_succ]
            refine' wpAnyH_take (i := 19) (v := _) rfl (by kernel_rfl) (by kernel_rfl) (by kernel_rfl) (fun _ _ _ h => h) (Or.inl ⟨by rfl, ?ly317⟩) (by assumption) ?lrest317
            case ly317 =>
              intro w hSw
              unfold S14 at hSw
              go_simp
              try with_reducible rfl
            try simp only [Act.put, List.setIfInBounds_toArray, List.set_cons_zero, List.set_cons_succ, List.getElem_toArray, List.getElem_cons_zero, List.getElem_cons_succ]
            refine' wpAnyH_take (i := 20) (v := _) rfl (by kernel_rfl) (by kernel_rfl) (by kernel_rfl) (fun _ _ _ h => h) (Or.inl ⟨by rfl, ?ly318⟩) (by assumption) ?lrest318
            case ly318 =>
              intro w hSw
              unfold S14 at hSw
              go_simp
              try with_reducible rfl
            try simp only [Act.put, List.setIfInBounds_toArray, List.set_cons_zero, List.set_cons_succ, List.getElem_toArray, List.getElem_cons_zero, List.getElem_cons_succ]
            refine' wpAnyH_take (i := 21) (v := _) rfl (by kernel_rfl) (by kernel_rfl) (by kernel_rfl) (fun _ _ _ h => h) (Or.inl ⟨by rfl, ?ly319⟩) (by assumption) ?lrest319
            case ly319 =>
              intro w hSw
              unfold S14 at hSw
              go_simp
              try with_reducible rfl
            try simp only [Act.put, List.setIfInBounds_toArray, List.set_cons_zero, List.set_cons_succ, List.getElem_toArray, List.getElem_cons_zero, List.getElem_cons_succ]
            refine' wpAnyH_take (i := 22) (v := _) rfl (by kernel_rfl) (by kernel_rfl) (by kernel_rfl) (fun _ _ _ h => h) (Or.inl ⟨by rfl, ?ly320⟩) (by assumption) ?lrest320
            case ly320 =>
              intro w hSw
              unfold S14 at hSw
              go_simp
              try with_reducible rfl
            try simp only [Act.put, List.setIfInBounds_toArray, List.set_cons_zero, List.set_cons_succ, List.getElem_toArray, List.getElem_cons_zero, List.getElem_cons_succ]
            refine' wpAnyH_take (i := 23) (v := _) rfl (by kernel_rfl) (by kernel_rfl) (by kernel_rfl) (fun _ _ _ h => h) (Or.inl ⟨by rfl, ?ly321⟩) (by assumption) ?lrest321
            case ly321 =>
              intro w hSw
              unfold S14 at hSw
              go_simp
              try with_reducible rfl
            try simp only [Act.put, List.setIfInBounds_toArray, List.set_cons_zero, List.set_cons_succ, List.getElem_toArray, List.getElem_cons_zero, List.getElem_cons_succ]
            refine wpAnyH_ready (rs := [24]) (by kernel_rfl) (by simp) ?_
            refine AllReadyH.cons rfl (fun K hK => ?_) AllReadyH.nil
            go_simp
            refine (HWK.out _ hk.bel).mono ?_
            rintro r9 w9 ⟨rfl, gq⟩
            have hk := hk.step gq
            refine hK.out _ _ hk.S (fun hHeld => ?_)
            clear hK K
            try simp only [Act.put, List.setIfInBounds_toArray, List.set_cons_zero, List.set_cons_succ, List.getElem_toArray, List.getElem_cons_zero, List.getElem_cons_succ]
            refine' wpAnyH_take (i := 25) (v := _) rfl (by kernel_rfl) (by kernel_rfl) (by kernel_rfl) (fun _ _ _ h => h) (Or.inl ⟨by rfl, ?ly323⟩) (by assumption) ?lrest323
            case ly323 =>
              intro w hSw
              unfold S14 at hSw
              go_simp
              try with_reducible rfl
            try simp only [Act.put, List.setIfInBounds_toArray, List.set_cons_zero, List.set_cons_succ, List.getElem_toArray, List.getElem_cons_zero, List.getElem_cons_succ]
            refine' wpAnyH_take (i := 26) (v := _) rfl (by kernel_rfl) (by kernel_rfl) (by kernel_rfl) (fun _ _ _ h => h) (Or.inl ⟨by rfl, ?ly324⟩) (by assumption) ?lrest324
            case ly324 =>
              intro w hSw
              unfold S14 at hSw
              go_simp
              try with_reducible rfl
            try simp only [Act.put, List.setIfInBounds_toArray, List.set_cons_zero, List.set_cons_succ, List.getElem_toArray, List.getElem_cons_zero, List.getElem_cons_succ]
            refine wpAnyH_done (by kernel_rfl) ?_ _
            go_wp2_with fail
            go_ret
            exact ⟨rfl, hk.bel⟩
        | true =>
          clear hls
          refine wp_region_held_drew (S := S14 false w.heap.size (w.heap.size + 1) q r ah al ah bl r2 q3 r2 r3 NN) (by kernel_rfl) hk.S (fun hHeld => ?_)
          refine' wpAnyH_take (i := 0) (v := _) rfl (by kernel_rfl) (by kernel_rfl) (by kernel_rfl) (fun _ _ _ h => h) (Or.inl ⟨by rfl, ?ly325⟩) (by assumption) ?lrest325
          case ly325 =>
            intro w hSw
            unfold S14 at hSw
            go_simp
            try with_reducible rfl
          try simp only [Act.put, List.setIfInBounds_toArray, List.set_cons_zero, List.set_cons_succ, List.getElem_toArray, List.getElem_cons_zero, List.getElem_cons_succ]
          refine' wpAnyH_take (i := 1) (v := _) rfl (by kernel_rfl) (by kernel_rfl) (by kernel_rfl) (fun _ _ _ h => h) (Or.inl ⟨by rfl, ?ly326⟩) (by assumption) ?lrest326
          case ly326 =>
            intro w hSw
            unfold S14 at hSw
            go_simp
            try with_reducible rfl
          try simp only [Act.put, List.setIfInBounds_toArray, List.set_cons_zero, List.set_cons_succ, List.getElem_toArray, List.getElem_cons_zero, List.getElem_cons_succ]
          refine' wpAnyH_take (i := 3) (v := _) rfl (by kernel_rfl) (by kernel_rfl) (by kernel_rfl) (fun _ _ _ h => h) (Or.inl ⟨by rfl, ?ly327⟩) (by assumption) ?lrest327
          case ly327 =>
            intro w hSw
            unfold S14 at hSw
            go_simp
            try with_reducible rfl
          try simp only [Act.put, List.setIfInBounds_toArray, List.set_cons_zero, List.set_cons_succ, List.getElem_toArray, List.getElem_cons_zero, List.getElem_cons_succ]
          refine' wpAnyH_take (i := 4) (v := _) rfl (by kernel_rfl) (by kernel_rfl) (by kernel_rfl) (fun _ _ _ h => h) (Or.inl ⟨by rfl, ?ly328⟩) (by assumption) ?lrest328
          case ly328 =>
            intro w hSw
            unfold S14 at hSw
            go_simp
            try with_reducible rfl
          try simp only [Act.put, List.setIfInBounds_toArray, List.set_cons_zero, List.set_cons_succ, List.getElem_toArray, List.getElem_cons_zero, List.getElem_cons_succ]
          refine' wpAnyH_take (i := 5) (v := _) rfl (by kernel_rfl) (by kernel_rfl) (by kernel_rfl) (fun _ _ _ h => h) (Or.inl ⟨by rfl, ?ly329⟩) (by assumption) ?lrest329
          case ly329 =>
            intro w hSw
            unfold S14 at hSw
            go_simp
            try with_reducible rfl
          try simp only [Act.put, List.setIfInBounds_toArray, List.set_cons_zero, List.set_cons_succ, List.getElem_toArray, List.getElem_cons_zero, List.getElem_cons_succ]
          refine wpAnyH_ready (rs := [2]) (by kernel_rfl) (by simp) ?_
          refine AllReadyH.cons rfl (fun K hK => ?_) AllReadyH.nil
          go_simp
          refine (HG3.out _).mono ?_
          rintro r9 w9 ⟨rfl, gq⟩
          have hk := hk.step gq
          refine hK.out _ _ hk.S (fun hHeld => ?_)
          clear hK K
          try simp only [Act.put, List.setIfInBounds_toArray, List.set_cons_zero, List.set_cons_succ, List.getElem_toArray, List.getElem_cons_zero, List.getElem_cons_succ]
          refine' wpAnyH_take (i := 6) (v := _) rfl (by kernel_rfl) (by kernel_rfl) (by kernel_rfl) (fun _ _ _ h => h) (Or.inl ⟨by rfl, ?ly331⟩) (by assumption) ?lrest331
          case ly331 =>
            intro w hSw
            unfold S14 at hSw
            go_simp
            try with_reducible rfl
          try simp only [Act.put, List.setIfInBounds_toArray, List.set_cons_zero, List.set_cons_succ, List.getElem_toArray, List.getElem_cons_zero, List.getElem_cons_succ]
          refine' wpAnyH_take (i := 7) (v := _) rfl (by kernel_rfl) (by kernel_rfl) (by kernel_rfl) (fun _ _ _ h => h) (Or.inl ⟨by rfl, ?ly332⟩) (by assumption) ?lrest332
          case ly332 =>
            intro w hSw
            unfold S14 at hSw
            go_simp
            try with_reducible rfl
          try simp only [Act.put, List.setIfInBounds_toArray, List.set_cons_zero, List.set_cons_succ, List.getElem_toArray, List.getElem_cons_zero, List.getElem_cons_succ]
          refine' wpAnyH_take (i := 8) (v := _) rfl (by kernel_rfl) (by kernel_rfl) (by kernel_rfl) (fun _ _ _ h => h) (Or.inl ⟨by rfl, ?ly333⟩) (by assumption) ?lrest333
          case ly333 =>
            intro w hSw
            unfold S14 at hSw
            go_simp
            try with_reducible rfl
          try simp only [Act.put, List.setIfInBounds_toArray, List.set_cons_zero, List.set_cons_succ, List.getElem_toArray, List.getElem_cons_zero, List.getElem_cons_succ]
          refine' wpAnyH_take (i := 9) (v := _) rfl (by kernel_rfl) (by kernel_rfl) (by kernel_rfl) (fun _ _ _ h => h) (Or.inl ⟨by rfl, ?ly334⟩) (by assumption) ?lrest334
          case ly334 =>
            intro w hSw
            unfold S14 at hSw
            go_simp
            try with_reducible rfl
          try simp only [Act.put, List.setIfInBounds_toArray, List.set_cons_zero, List.set_cons_succ, List.getElem_toArray, List.getElem_cons_zero, List.getElem_cons_succ]
          refine' wpAnyH_take (i := 10) (v := _) rfl (by kernel_rfl) (by kernel_rfl) (by kernel_rfl) (fun _ _ _ h => h) (Or.inl ⟨by rfl, ?ly335⟩) (by assumption) ?lrest335
          case ly335 =>
            intro w hSw
            unfold S14 at hSw
            go_simp
            try with_reducible rfl
          try simp only [Act.put, List.setIfInBounds_toArray, List.set_cons_zero, List.set_cons_succ, List.getElem_toArray, List.getElem_cons_zero, List.getElem_cons_succ]
          refine' wpAnyH_take (i := 11) (v := _) rfl (by kernel_rfl) (by kernel_rfl) (by kernel_rfl) (fun _ _ _ h => h) (Or.inl ⟨by rfl, ?ly336⟩) (by assumption) ?lrest336
          case ly336 =>
            intro w hSw
            unfold S14 at hSw
            go_simp
            try with_reducible rfl
          try simp only [Act.put, List.setIfInBounds_toArray, List.set_cons_zero, List.set_cons_succ, List.getElem_toArray, List.getElem_cons_zero, List.getElem_cons_succ]
          refine' wpAnyH_take (i := 12) (v := _) rfl (by kernel_rfl) (by kernel_rfl) (by kernel_rfl) (fun _ _ _ h => h) (Or.inl ⟨by rfl, ?ly337⟩) (by assumption) ?lrest337
          case ly337 =>
            intro w hSw
            unfold S14 at hSw
            go_simp
            try with_reducible rfl
          try simp only [Act.put, List.setIfInBounds_toArray, List.set_cons_zero, List.set_cons_succ, List.getElem_toArray, List.getElem_cons_zero, List.getElem_cons_succ]
          refine wpAnyH_ready (rs := [13]) (by kernel_rfl) (by simp) ?_
          refine AllReadyH.cons rfl (fun K hK => ?_) AllReadyH.nil
          go_simp
          refine (HL1.out _).mono ?_
          rintro r9 w9 ⟨rfl, gq⟩
          have hk := hk.step gq
          refine hK.out _ _ hk.S (fun hHeld => ?_)
          clear hK K
          try simp only [Act.put, List.setIfInBounds_toArray, List.set_cons_zero, List.set_cons_succ, List.getElem_toArray, List.getElem_cons_zero, List.getElem_cons_succ]
          refine' wpAnyH_take (i := 14) (v := _) rfl (by kernel_rfl) (by kernel_rfl) (by kernel_rfl) (fun _ _ _ h => h) (Or.inl ⟨by rfl, ?ly339⟩) (by assumption) ?lrest339
          case ly339 =>
            intro w hSw
            unfold S14 at hSw
            go_simp
            try with_reducible rfl
          try simp only [Act.put, List.setIfInBounds_toArray, List.set_cons_zero, List.set_cons_succ, List.getElem_toArray, List.getElem_cons_zero, List.getElem_cons_succ]
          refine' wpAnyH_take (i := 15) (v := _) rfl (by kernel_rfl) (by kernel_rfl) (by kernel_rfl) (fun _ _ _ h => h) (Or.inl ⟨by rfl, ?ly340⟩) (by assumption) ?lrest340
          case ly340 =>
            intro w hSw
            unfold S14 at hSw
            go_simp
            try with_reducible rfl
          try simp only [Act.put, List.setIfInBounds_toArray, List.set_cons_zero, List.set_cons_succ, List.getElem_toArray, List.getElem_cons_zero, List.getElem_cons_succ]
          refine' wpAnyH_take (i := 16) (v := undef) rfl (by kernel_rfl) (by kernel_rfl) (by kernel_rfl) (fun _ _ _ h => h) (Or.inr ⟨by rfl, rfl⟩) (by assumption) ?lrest341
          try simp only [Act.put, List.setIfInBounds_toArray, List.set_cons_zero, List.set_cons_succ, List.getElem_toArray, List.getElem_cons_zero, List.getElem_cons_succ]
          refine' wpAnyH_take (i := 17) (v := undef) rfl (by kernel_rfl) (by kernel_rfl) (by kernel_rfl) (fun _ _ _ h => h) (Or.inr ⟨by rfl, rfl⟩) (by assumption) ?lrest342
          try simp only [Act.put, List.setIfInBounds_toArray, List.set_cons_zero, List.set_cons_succ, List.getElem_toArray, List.getElem_cons_zero, List.getElem_cons_succ]
          refine' wpAnyH_take (i := 18) (v := undef) rfl (by kernel_rfl) (by kernel_rfl) (by kernel_rfl) (fun _ _ _ h => h) (Or.inr ⟨by rfl, rfl⟩) (by assumption) ?lrest343
          try simp only [Act.put, List.setIfInBounds_toArray, List.set_cons_zero, List.set_cons_succ, List.getElem_toArray, List.getElem_cons_zero, List.getElem_cons_succ]
          refine' wpAnyH_take (i := 19) (v := undef) rfl (by kernel_rfl) (by kernel_rfl) (by kernel_rfl) (fun _ _ _ h => h) (Or.inr ⟨by rfl, rfl⟩) (by assumption) ?lrest344
          try simp only [Act.put, List.setIfInBounds_toArray, List.set_cons_zero, List.set_cons_succ, List.getElem_toArray, List.getElem_cons_zero, List.getElem_cons_succ]
          refine' wpAnyH_take (i := 20) (v := _) rfl (by kernel_rfl) (by kernel_rfl) (by kernel_rfl) (fun _ _ _ h => h) (Or.inl ⟨by rfl, ?ly345⟩) (by assumption) ?lrest345
          case ly345 =>
            intro w hSw
            unfold S14 at hSw
            go_simp
            try with_reducible rfl
          try simp only [Act.put, List.setIfInBounds_toArray, List.set_cons_zero, List.set_cons_succ, List.getElem_toArray, List.getElem_cons_zero, List.getElem_cons_succ]
          refine' wpAnyH_take (i := 21) (v := _) rfl (by kernel_rfl) (by kernel_rfl) (by kernel_rfl) (fun _ _ _ h => h) (Or.inl ⟨by rfl, ?ly346⟩) (by assumption) ?lrest346
          case ly346 =>
            intro w hSw
            unfold S14 at hSw
            go_simp
            try with_reducible rfl
          try simp only [Act.put, List.setIfInBounds_toArray, List.set_cons_zero, List.set_cons_succ, List.getElem_toArray, List.getElem_cons_zero, List.getElem_cons_succ]
          refine' wpAnyH_take (i := 22) (v := _) rfl (by kernel_rfl) (by kernel_rfl) (by kernel_rfl) (fun _ _ _ h => h) (Or.inl ⟨by rfl, ?ly347⟩) (by assumption) ?lrest347
          case ly347 =>
            intro w hSw
            unfold S14 at hSw
            go_simp
            try with_reducible rfl
          try simp only [Act.put, List.setIfInBounds_toArray, List.set_cons_zero, List.set_cons_succ, List.getElem_toArray, List.getElem_cons_zero, List.getElem_cons_succ]
          refine' wpAnyH_take (i := 23) (v := _) rfl (by kernel_rfl) (by kernel_rfl) (by kernel_rfl) (fun _ _ _ h => h) (Or.inl ⟨by rfl, ?ly348⟩) (by assumption) ?lrest348
          case ly348 =>
            intro w hSw
            unfold S14 at hSw
            go_simp
            try with_reducible rfl
          try simp only [Act.put, List.setIfInBounds_toArray, List.set_cons_zero, List.set_cons_succ, List.getElem_toArray, List.getElem_cons_zero, List.getElem_cons_succ]
          refine wpAnyH_ready (rs := [24]) (by kernel_rfl) (by simp) ?_
          refine AllReadyH.cons rfl (fun K hK => ?_) AllReadyH.nil
          go_simp
          refine (HWK.out _ hk.bel).mono ?_
          rintro r9 w9 ⟨rfl, gq⟩
          have hk := hk.step gq
          refine hK.out _ _ hk.S (fun hHeld => ?_)
          clear hK K
          try simp only [Act.put, List.setIfInBounds_toArray, List.set_cons_zero, List.set_cons_succ, List.getElem_toArray, List.getElem_cons_zero, List.getElem_cons_succ]
          refine' wpAnyH_take (i := 25) (v := _) rfl (by kernel_rfl) (by kernel_rfl) (by kernel_rfl) (fun _ _ _ h => h) (Or.inl ⟨by rfl, ?ly350⟩) (by assumption) ?lrest350
          case ly350 =>
            intro w hSw
            unfold S14 at hSw
            go_simp
            try with_reducible rfl
          try simp only [Act.put, List.setIfInBounds_toArray, List.set_cons_zero, List.set_cons_succ, List.getElem_toArray, List.getElem_cons_zero, List.getElem_cons_succ]
          refine' wpAnyH_take (i := 26) (v := _) rfl (by kernel_rfl) (by kernel_rfl) (by kernel_rfl) (fun _ _ _ h => h) (Or.inl ⟨by rfl, ?ly351⟩) (by assumption) ?lrest351
          case ly351 =>
            intro w hSw
            unfold S14 at hSw
            go_simp
            try with_reducible rfl
          try simp only [Act.put, List.setIfInBounds_toArray, List.set_cons_zero, List.set_cons_succ, List.getElem_toArray, List.getElem_cons_zero, List.getElem_cons_succ]
          refine wpAnyH_done (by kernel_rfl) ?_ _
          go_wp2_with fail
          go_ret
          exact ⟨rfl, hk.bel⟩
end Go.Proofs.YtomndcjgdfhmbaaGreatDoor
