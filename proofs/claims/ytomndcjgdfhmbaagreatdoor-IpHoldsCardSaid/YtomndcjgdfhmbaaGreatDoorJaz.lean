/- Joined out of: LwF. -/
import Derived.Test.YtomndcjgdfhmbaaGreatDoorJay
import Derived.Test.YtomndcjgdfhmbaaGreatDoorJax
import Derived.BigRegion
import Derived.Deep.DeepCutAuto
set_option linter.unusedVariables false
set_option linter.unusedSimpArgs false

/- IpHolds: the walk, six. (Printed by lw_holds.py.) -/
namespace Go.Proofs.YtomndcjgdfhmbaaGreatDoor
open Go.RowKit
attribute [local go_sem ↓] Go.wp_at_zero Go.wp_at_succ


set_option maxHeartbeats 16000000 in
set_option maxRecDepth 100000 in
theorem holds_six {w : World} (env : Env w) (ah al bh bl : Nat) (oka : (Ad.mk true ah al).Ok) (okb : (Ad.mk true bh bl).Ok) (hma : (Ad.mk true ah al).may = true) (hmb : (Ad.mk true bh bl).may = true) (n m : Nat) (hn : n < 256) (hm : m < 256) : Calls Tryz.prog 8 #[.agg #[.bool true, .int .u64 (ah : Int), .int .u64 (al : Int)], .agg #[.bool true, .int .u64 (bh : Int), .int .u64 (bl : Int)], .int .u8 (n : Int), .int .u8 (m : Int)] w (Got (.bool true) w) := by
  have HWK := Lib.hid fun v (hv : Below w.heap.size w v) => works_any (env.below hv)
  have htx := fun u (hv : Below w.heap.size w u) => text_any (env.below hv) ⟨true, ah, al⟩ oka
  have hty := fun u (hv : Below w.heap.size w u) => text_any (env.below hv) ⟨true, bh, bl⟩ okb
  have e1 := text_emp ⟨true, ah, al⟩
  have e2 := text_emp ⟨true, bh, bl⟩
  rw [hma] at e1
  rw [hmb] at e2
  unfold Ad.cells at htx hty
  simp only at htx hty
  generalize textB ⟨true, ah, al⟩ = TXA at htx e1
  generalize textB ⟨true, bh, bl⟩ = TXB at hty e2
  have HTX := Lib.hid htx
  have HTY := Lib.hid hty
  clear htx hty env
  simp only [Bool.not_true] at e1 e2
  have ha := (Blk.new w 24 #[.bool true, .int .u64 (ah : Int), .int .u64 (al : Int)]).alloc (.cells #[.bool true, .int .u64 (bh : Int), .int .u64 (bl : Int)] 24)
  have hb : Blk ((w.alloc (.cells #[.bool true, .int .u64 (ah : Int), .int .u64 (al : Int)] 24)).alloc (.cells #[.bool true, .int .u64 (bh : Int), .int .u64 (bl : Int)] 24)) (w.heap.size + 1) 24 #[.bool true, .int .u64 (bh : Int), .int .u64 (bl : Int)] := by
    have h := Blk.new (w.alloc (.cells #[.bool true, .int .u64 (ah : Int), .int .u64 (al : Int)] 24)) 24 #[.bool true, .int .u64 (bh : Int), .int .u64 (bl : Int)]
    simpa using h
  have hv := two_boxed w (.cells #[.bool true, .int .u64 (ah : Int), .int .u64 (al : Int)] 24) (.cells #[.bool true, .int .u64 (bh : Int), .int .u64 (bl : Int)] 24)
  go_enter Tryz.func8, Tryz.ntmps8
  go_upto_region 1 with fail
  generalize (w.alloc (.cells #[.bool true, .int .u64 (ah : Int), .int .u64 (al : Int)] 24)).alloc (.cells #[.bool true, .int .u64 (bh : Int), .int .u64 (bl : Int)] 24) = w0 at ha hb hv ⊢
  have a0 := ha.cell 0; have a1 := ha.cell 1; have a2 := ha.cell 2; simp at a0 a1 a2
  have b0 := hb.cell 0; have b1 := hb.cell 1; have b2 := hb.cell 2; simp at b0 b1 b2
  go_upto_region 3 with (first
    | (go_at_call 19; (with_reducible refine (HTX.out _ hv).mono ?_); rintro r w1 ⟨rfl, d1⟩; have hv1 := after hv d1; have ha1 := ha.below d1 ha.lt; have hb1 := hb.below d1 hb.lt; clear hv ha hb a0 a1 a2 b0 b1 b2 d1; have a0 := ha1.cell 0; have a1 := ha1.cell 1; have a2 := ha1.cell 2; simp at a0 a1 a2; have b0 := hb1.cell 0; have b1 := hb1.cell 1; have b2 := hb1.cell 2; simp at b0 b1 b2)
    | (go_at_call 19; (with_reducible refine (HTY.out _ hv1).mono ?_); rintro r w2 ⟨rfl, d2⟩; have hv2 := after hv1 d2; have ha2 := ha1.below d2 ha1.lt; have hb2 := hb1.below d2 hb1.lt; clear hv1 ha1 hb1 a0 a1 a2 b0 b1 b2 d2; have a0 := ha2.cell 0; have a1 := ha2.cell 1; have a2 := ha2.cell 2; simp at a0 a1 a2; have b0 := hb2.cell 0; have b1 := hb2.cell 1; have b2 := hb2.cell 2; simp at b0 b1 b2))
  go_upto_region 6 with fail
  go_region
  obtain ⟨N, hN, hN2⟩ : ∃ N : Nat, (n : Int) % 129 = (N : Int) ∧ N ≤ 128 := ⟨n % 129, by omega, by omega⟩
  obtain ⟨M, hM, hM2⟩ : ∃ M : Nat, (m : Int) % 129 = (M : Int) ∧ M ≤ 128 := ⟨m % 129, by omega, by omega⟩
  rw [hN, hM]
  clear hN hM
  have ha3 := ha2.drew
  have hb3 := hb2.drew
  have hv3 := hv2.drew
  clear ha2 hb2 hv2 a0 a1 a2 b0 b1 b2
  generalize w2.drew = w3 at ha3 hb3 hv3 ⊢
  have a0 := ha3.cell 0; have a1 := ha3.cell 1; have a2 := ha3.cell 2; simp at a0 a1 a2
  have b0 := hb3.cell 0; have b1 := hb3.cell 1; have b2 := hb3.cell 2; simp at b0 b1 b2
  go_upto_if 41 with fail
  go_cut [2, 3] (fun s2 s3 wx => ∃ MM NN : Nat, MM ≤ NN ∧ NN ≤ 128 ∧ s2 = .int .u8 (MM : Int) ∧ s3 = .int .u8 (NN : Int) ∧ wx = w3)
  case first =>
    go_wp2_with fail
    all_goals go_meet
    · rename_i h
      exact ⟨M, N, by omega, hN2, rfl, rfl, rfl⟩
    · rename_i h
      exact ⟨N, M, by omega, hM2, rfl, rfl, rfl⟩
  case rest =>
  obtain ⟨MM, NN, hMN, hNN, rfl, rfl, hwx⟩ := hcut
  have hwx := hwx.symm
  subst hwx
  clear hN2 hM2 N M
  have c1 : ∀ u, Calls Tryz.prog 32 #[.agg #[.bool true, .int .u64 (ah : Int), .int .u64 (al : Int)], .int .u8 (MM : Int), .int .u8 128] u (Got (.agg (Pf.cells ⟨cutA ⟨true, ah, al⟩ MM, MM⟩)) u) := fun u => cut_any ⟨true, ah, al⟩ MM oka (show MM ≤ 128 by omega) u
  have c2 : ∀ u, Calls Tryz.prog 32 #[.agg #[.bool true, .int .u64 (ah : Int), .int .u64 (al : Int)], .int .u8 (NN : Int), .int .u8 128] u (Got (.agg (Pf.cells ⟨cutA ⟨true, ah, al⟩ NN, NN⟩)) u) := fun u => cut_any ⟨true, ah, al⟩ NN oka hNN u
  have c3 : ∀ u, Calls Tryz.prog 32 #[.agg #[.bool true, .int .u64 (bh : Int), .int .u64 (bl : Int)], .int .u8 (NN : Int), .int .u8 128] u (Got (.agg (Pf.cells ⟨cutA ⟨true, bh, bl⟩ NN, NN⟩)) u) := fun u => cut_any ⟨true, bh, bl⟩ NN okb hNN u
  obtain ⟨P1, hP1⟩ : ∃ P, P = cutA ⟨true, ah, al⟩ MM := ⟨_, rfl⟩
  obtain ⟨P2, hP2⟩ : ∃ P, P = cutA ⟨true, ah, al⟩ NN := ⟨_, rfl⟩
  obtain ⟨P3, hP3⟩ : ∃ P, P = cutA ⟨true, bh, bl⟩ NN := ⟨_, rfl⟩
  rw [← hP1] at c1
  rw [← hP2] at c2
  rw [← hP3] at c3
  obtain ⟨p1, p2, p3⟩ := P1
  obtain ⟨q1, q2, q3⟩ := P2
  obtain ⟨r1, r2, r3⟩ := P3
  have p1e : p1 = true := (congrArg Ad.v6 hP1).trans (cut_v6 _ _)
  have q1e : q1 = true := (congrArg Ad.v6 hP2).trans (cut_v6 _ _)
  have r1e : r1 = true := (congrArg Ad.v6 hP3).trans (cut_v6 _ _)
  subst p1e q1e r1e
  unfold Pf.cells at c1 c2 c3
  simp only at c1 c2 c3
  have HC1 := Lib.hid c1
  have HC2 := Lib.hid c2
  have HC3 := Lib.hid c3
  have HP1 := Lib.hid hP1
  have HP2 := Lib.hid hP2
  have HP3 := Lib.hid hP3
  clear c1 c2 c3 hP1 hP2 hP3
  go_upto_region 9 with fail
  go_cut [10, 11, 12] (fun s10 s11 s12 wx => ∃ p q r : Nat, s10 = .pointer (some ⟨p, 0, none⟩) ∧ s11 = .pointer (some ⟨q, 0, none⟩) ∧ s12 = .pointer (some ⟨r, 0, none⟩) ∧ Below w3.heap.size w3 wx ∧ Blk wx p 39 #[.bool true, .int .u64 (p2 : Int), .int .u64 (p3 : Int), .int .u8 (MM : Int)] ∧ Blk wx q 39 #[.bool true, .int .u64 (q2 : Int), .int .u64 (q3 : Int), .int .u8 (NN : Int)] ∧ Blk wx r 39 #[.bool true, .int .u64 (r2 : Int), .int .u64 (r3 : Int), .int .u8 (NN : Int)])
  case first =>
    refine wp_region_free (by rfl) [10, 11, 12, 44, 45, 46, 47, 48, 49, 50, 51, 52, 53, 54, 55] (F9 #[.bool true, .int .u64 (ah : Int), .int .u64 (al : Int)] #[.bool true, .int .u64 (bh : Int), .int .u64 (bl : Int)] #[.bool true, .int .u64 (p2 : Int), .int .u64 (p3 : Int), .int .u8 (MM : Int)] #[.bool true, .int .u64 (q2 : Int), .int .u64 (q3 : Int), .int .u8 (NN : Int)] #[.bool true, .int .u64 (r2 : Int), .int .u64 (r3 : Int), .int .u8 (NN : Int)] MM NN 128) (fun a u => Below w3.heap.size w3 u ∧ Fresh w3.heap.size [10, 11, 12] a u) (by kernel_rfl) ?hJ ?hstep ?hend
    case hJ =>
      refine ⟨(Below.refl _ _).drew, ⟨?_, ?_⟩⟩
      · intro x hx p hp
        simp at hx
        rcases hx with rfl | rfl | rfl <;> cases (show undef = Value.pointer (some p) from hp)
      · intro x hx y hy hne p q hp
        simp at hx
        rcases hx with rfl | rfl | rfl <;> cases (show undef = Value.pointer (some p) from hp)
    case hstep =>
      intro i o l a u ho hun hcl hoff hJ hdep
      have hlt : i < 18 := (Array.getElem?_eq_some_iff.1 ho).1
      by_cases h0 : i = 0
      · subst h0
        obtain rfl := Option.some.inj ho
        have ne : ∀ j, l.getD j false = true → slot9 j ≠ 44 := by
          intro j hj e
          unfold slot9 at e
          split at e <;> first | exact absurd e (by decide) | exact getD_conf hun hj
        have hsz : 44 < a.tmps.size := by rw [hoff.size]; exact (show 44 < 116 by decide)
        have h4 : a.tmps.getD 4 undef = .pointer (some ⟨w.heap.size, 0, none⟩) := (hoff.get (by decide)).trans rfl
        have hau := ha3.below hJ.1 ha3.lt
        have x0 := hau.cell 0
        have x1 := hau.cell 1
        have x2 := hau.cell 2
        simp at x0 x1 x2
        refine wpOp_step rfl (fun K' hK => ?_)
        go_simp
        exact hK _ _ ⟨hoff.put (by decide) _, ⟨hJ.1, hJ.2.off (Nat.le_refl _) (by decide) _⟩, put_self _ hsz, fun j hj hF => F9_keep hF (put_other _ (Ne.symm (ne j hj))) (Below.refl _ _)⟩
      by_cases h1 : i = 1
      · subst h1
        obtain rfl := Option.some.inj ho
        have ne : ∀ j, l.getD j false = true → slot9 j ≠ 45 := by
          intro j hj e
          unfold slot9 at e
          split at e <;> first | exact absurd e (by decide) | exact getD_conf hun hj
        have hsz : 45 < a.tmps.size := by rw [hoff.size]; exact (show 45 < 116 by decide)
        have h4 : a.tmps.getD 2 undef = .int .u8 (MM : Int) := (hoff.get (by decide)).trans rfl
        refine wpOp_step rfl (fun K' hK => ?_)
        go_simp
        exact hK _ _ ⟨hoff.put (by decide) _, ⟨hJ.1, hJ.2.off (Nat.le_refl _) (by decide) _⟩, put_self _ hsz, fun j hj hF => F9_keep hF (put_other _ (Ne.symm (ne j hj))) (Below.refl _ _)⟩
      by_cases h2 : i = 2
      · subst h2
        obtain rfl := Option.some.inj ho
        have ne : ∀ j, l.getD j false = true → slot9 j ≠ 46 := by
          intro j hj e
          unfold slot9 at e
          split at e <;> first | exact absurd e (by decide) | exact getD_conf hun hj
        have hsz : 46 < a.tmps.size := by rw [hoff.size]; exact (show 46 < 116 by decide)
        have h4 : a.tmps.getD 9 undef = .int .u8 128 := (hoff.get (by decide)).trans rfl
        refine wpOp_step rfl (fun K' hK => ?_)
        go_simp
        exact hK _ _ ⟨hoff.put (by decide) _, ⟨hJ.1, hJ.2.off (Nat.le_refl _) (by decide) _⟩, put_self _ hsz, fun j hj hF => F9_keep hF (put_other _ (Ne.symm (ne j hj))) (Below.refl _ _)⟩
      by_cases h3 : i = 3
      · subst h3
        obtain rfl := Option.some.inj ho
        have ne : ∀ j, l.getD j false = true → slot9 j ≠ 47 := by
          intro j hj e
          unfold slot9 at e
          split at e <;> first | exact absurd e (by decide) | exact getD_conf hun hj
        have hsz : 47 < a.tmps.size := by rw [hoff.size]; exact (show 47 < 116 by decide)
        have x0 : a.tmps.getD 44 undef = .agg #[.bool true, .int .u64 (ah : Int), .int .u64 (al : Int)] := hdep ⟨0, .data⟩ (by simp) rfl
        have x1 : a.tmps.getD 45 undef = .int .u8 (MM : Int) := hdep ⟨1, .data⟩ (by simp) rfl
        have x2 : a.tmps.getD 46 undef = .int .u8 128 := hdep ⟨2, .data⟩ (by simp) rfl
        refine wpOp_step rfl (fun K' hK => ?_)
        go_simp
        refine (HC1.out _).mono ?_
        rintro r u' ⟨rfl, du⟩
        go_simp
        exact hK _ _ ⟨hoff.put (by decide) _, ⟨after hJ.1 du, hJ.2.off du.size (by decide) _⟩, put_self _ hsz, fun j hj hF => F9_keep hF (put_other _ (Ne.symm (ne j hj))) du⟩
      by_cases h4 : i = 4
      · subst h4
        obtain rfl := Option.some.inj ho
        have ne : ∀ j, l.getD j false = true → slot9 j ≠ 48 := by
          intro j hj e
          unfold slot9 at e
          split at e <;> first | exact absurd e (by decide) | exact getD_conf hun hj
        have hsz : 48 < a.tmps.size := by rw [hoff.size]; exact (show 48 < 116 by decide)
        have h4 : a.tmps.getD 4 undef = .pointer (some ⟨w.heap.size, 0, none⟩) := (hoff.get (by decide)).trans rfl
        have hau := ha3.below hJ.1 ha3.lt
        have x0 := hau.cell 0
        have x1 := hau.cell 1
        have x2 := hau.cell 2
        simp at x0 x1 x2
        refine wpOp_step rfl (fun K' hK => ?_)
        go_simp
        exact hK _ _ ⟨hoff.put (by decide) _, ⟨hJ.1, hJ.2.off (Nat.le_refl _) (by decide) _⟩, put_self _ hsz, fun j hj hF => F9_keep hF (put_other _ (Ne.symm (ne j hj))) (Below.refl _ _)⟩
      by_cases h5 : i = 5
      · subst h5
        obtain rfl := Option.some.inj ho
        have ne : ∀ j, l.getD j false = true → slot9 j ≠ 49 := by
          intro j hj e
          unfold slot9 at e
          split at e <;> first | exact absurd e (by decide) | exact getD_conf hun hj
        have hsz : 49 < a.tmps.size := by rw [hoff.size]; exact (show 49 < 116 by decide)
        have h4 : a.tmps.getD 3 undef = .int .u8 (NN : Int) := (hoff.get (by decide)).trans rfl
        refine wpOp_step rfl (fun K' hK => ?_)
        go_simp
        exact hK _ _ ⟨hoff.put (by decide) _, ⟨hJ.1, hJ.2.off (Nat.le_refl _) (by decide) _⟩, put_self _ hsz, fun j hj hF => F9_keep hF (put_other _ (Ne.symm (ne j hj))) (Below.refl _ _)⟩
      by_cases h6 : i = 6
      · subst h6
        obtain rfl := Option.some.inj ho
        have ne : ∀ j, l.getD j false = true → slot9 j ≠ 50 := by
          intro j hj e
          unfold slot9 at e
          split at e <;> first | exact absurd e (by decide) | exact getD_conf hun hj
        have hsz : 50 < a.tmps.size := by rw [hoff.size]; exact (show 50 < 116 by decide)
        have h4 : a.tmps.getD 9 undef = .int .u8 128 := (hoff.get (by decide)).trans rfl
        refine wpOp_step rfl (fun K' hK => ?_)
        go_simp
        exact hK _ _ ⟨hoff.put (by decide) _, ⟨hJ.1, hJ.2.off (Nat.le_refl _) (by decide) _⟩, put_self _ hsz, fun j hj hF => F9_keep hF (put_other _ (Ne.symm (ne j hj))) (Below.refl _ _)⟩
      by_cases h7 : i = 7
      · subst h7
        obtain rfl := Option.some.inj ho
        have ne : ∀ j, l.getD j false = true → slot9 j ≠ 51 := by
          intro j hj e
          unfold slot9 at e
          split at e <;> first | exact absurd e (by decide) | exact getD_conf hun hj
        have hsz : 51 < a.tmps.size := by rw [hoff.size]; exact (show 51 < 116 by decide)
        have x0 : a.tmps.getD 48 undef = .agg #[.bool true, .int .u64 (ah : Int), .int .u64 (al : Int)] := hdep ⟨4, .data⟩ (by simp) rfl
        have x1 : a.tmps.getD 49 undef = .int .u8 (NN : Int) := hdep ⟨5, .data⟩ (by simp) rfl
        have x2 : a.tmps.getD 50 undef = .int .u8 128 := hdep ⟨6, .data⟩ (by simp) rfl
        refine wpOp_step rfl (fun K' hK => ?_)
        go_simp
        refine (HC2.out _).mono ?_
        rintro r u' ⟨rfl, du⟩
        go_simp
        exact hK _ _ ⟨hoff.put (by decide) _, ⟨after hJ.1 du, hJ.2.off du.size (by decide) _⟩, put_self _ hsz, fun j hj hF => F9_keep hF (put_other _ (Ne.symm (ne j hj))) du⟩
      by_cases h8 : i = 8
      · subst h8
        obtain rfl := Option.some.inj ho
        have ne : ∀ j, l.getD j false = true → slot9 j ≠ 52 := by
          intro j hj e
          unfold slot9 at e
          split at e <;> first | exact absurd e (by decide) | exact getD_conf hun hj
        have hsz : 52 < a.tmps.size := by rw [hoff.size]; exact (show 52 < 116 by decide)
        have h4 : a.tmps.getD 5 undef = .pointer (some ⟨w.heap.size + 1, 0, none⟩) := (hoff.get (by decide)).trans rfl
        have hau := hb3.below hJ.1 hb3.lt
        have x0 := hau.cell 0
        have x1 := hau.cell 1
        have x2 := hau.cell 2
        simp at x0 x1 x2
        refine wpOp_step rfl (fun K' hK => ?_)
        go_simp
        exact hK _ _ ⟨hoff.put (by decide) _, ⟨hJ.1, hJ.2.off (Nat.le_refl _) (by decide) _⟩, put_self _ hsz, fun j hj hF => F9_keep hF (put_other _ (Ne.symm (ne j hj))) (Below.refl _ _)⟩
      by_cases h9 : i = 9
      · subst h9
        obtain rfl := Option.some.inj ho
        have ne : ∀ j, l.getD j false = true → slot9 j ≠ 53 := by
          intro j hj e
          unfold slot9 at e
          split at e <;> first | exact absurd e (by decide) | exact getD_conf hun hj
        have hsz : 53 < a.tmps.size := by rw [hoff.size]; exact (show 53 < 116 by decide)
        have h4 : a.tmps.getD 3 undef = .int .u8 (NN : Int) := (hoff.get (by decide)).trans rfl
        refine wpOp_step rfl (fun K' hK => ?_)
        go_simp
        exact hK _ _ ⟨hoff.put (by decide) _, ⟨hJ.1, hJ.2.off (Nat.le_refl _) (by decide) _⟩, put_self _ hsz, fun j hj hF => F9_keep hF (put_other _ (Ne.symm (ne j hj))) (Below.refl _ _)⟩
      by_cases h10 : i = 10
      · subst h10
        obtain rfl := Option.some.inj ho
        have ne : ∀ j, l.getD j false = true → slot9 j ≠ 54 := by
          intro j hj e
          unfold slot9 at e
          split at e <;> first | exact absurd e (by decide) | exact getD_conf hun hj
        have hsz : 54 < a.tmps.size := by rw [hoff.size]; exact (show 54 < 116 by decide)
        have h4 : a.tmps.getD 9 undef = .int .u8 128 := (hoff.get (by decide)).trans rfl
        refine wpOp_step rfl (fun K' hK => ?_)
        go_simp
        exact hK _ _ ⟨hoff.put (by decide) _, ⟨hJ.1, hJ.2.off (Nat.le_refl _) (by decide) _⟩, put_self _ hsz, fun j hj hF => F9_keep hF (put_other _ (Ne.symm (ne j hj))) (Below.refl _ _)⟩
      by_cases h11 : i = 11
      · subst h11
        obtain rfl := Option.some.inj ho
        have ne : ∀ j, l.getD j false = true → slot9 j ≠ 55 := by
          intro j hj e
          unfold slot9 at e
          split at e <;> first | exact absurd e (by decide) | exact getD_conf hun hj
        have hsz : 55 < a.tmps.size := by rw [hoff.size]; exact (show 55 < 116 by decide)
        have x0 : a.tmps.getD 52 undef = .agg #[.bool true, .int .u64 (bh : Int), .int .u64 (bl : Int)] := hdep ⟨8, .data⟩ (by simp) rfl
        have x1 : a.tmps.getD 53 undef = .int .u8 (NN : Int) := hdep ⟨9, .data⟩ (by simp) rfl
        have x2 : a.tmps.getD 54 undef = .int .u8 128 := hdep ⟨10, .data⟩ (by simp) rfl
        refine wpOp_step rfl (fun K' hK => ?_)
        go_simp
        refine (HC3.out _).mono ?_
        rintro r u' ⟨rfl, du⟩
        go_simp
        exact hK _ _ ⟨hoff.put (by decide) _, ⟨after hJ.1 du, hJ.2.off du.size (by decide) _⟩, put_self _ hsz, fun j hj hF => F9_keep hF (put_other _ (Ne.symm (ne j hj))) du⟩
      by_cases h12 : i = 12
      · subst h12
        obtain rfl := Option.some.inj ho
        have ne : ∀ j, l.getD j false = true → slot9 j ≠ 10 := by
          intro j hj e
          unfold slot9 at e
          split at e <;> first | exact absurd e (by decide) | exact getD_conf hun hj | exact getD_conf hun (hcl _ _ rfl hj ⟨12, .data⟩ (by simp) rfl)
        have hsz : 10 < a.tmps.size := by rw [hoff.size]; exact (show 10 < 116 by decide)
        refine wpOp_step rfl (fun K' hK => ?_)
        go_simp
        exact hK _ _ ⟨hoff.put (by decide) _, ⟨after hJ.1 (boxed _ _), hJ.2.make hJ.1.size (by simp) hsz⟩, ⟨u.heap.size, _, put_self _ hsz, Blk.new _ _ _, rfl⟩, fun j hj hF => F9_keep hF (put_other _ (Ne.symm (ne j hj))) (boxed _ _)⟩
      by_cases h13 : i = 13
      · subst h13
        obtain rfl := Option.some.inj ho
        have ne : ∀ j, l.getD j false = true → slot9 j ≠ 11 := by
          intro j hj e
          unfold slot9 at e
          split at e <;> first | exact absurd e (by decide) | exact getD_conf hun hj | exact getD_conf hun (hcl _ _ rfl hj ⟨13, .data⟩ (by simp) rfl)
        have hsz : 11 < a.tmps.size := by rw [hoff.size]; exact (show 11 < 116 by decide)
        refine wpOp_step rfl (fun K' hK => ?_)
        go_simp
        exact hK _ _ ⟨hoff.put (by decide) _, ⟨after hJ.1 (boxed _ _), hJ.2.make hJ.1.size (by simp) hsz⟩, ⟨u.heap.size, _, put_self _ hsz, Blk.new _ _ _, rfl⟩, fun j hj hF => F9_keep hF (put_other _ (Ne.symm (ne j hj))) (boxed _ _)⟩
      by_cases h14 : i = 14
      · subst h14
        obtain rfl := Option.some.inj ho
        have ne : ∀ j, l.getD j false = true → slot9 j ≠ 12 := by
          intro j hj e
          unfold slot9 at e
          split at e <;> first | exact absurd e (by decide) | exact getD_conf hun hj | exact getD_conf hun (hcl _ _ rfl hj ⟨14, .data⟩ (by simp) rfl)
        have hsz : 12 < a.tmps.size := by rw [hoff.size]; exact (show 12 < 116 by decide)
        refine wpOp_step rfl (fun K' hK => ?_)
        go_simp
        exact hK _ _ ⟨hoff.put (by decide) _, ⟨after hJ.1 (boxed _ _), hJ.2.make hJ.1.size (by simp) hsz⟩, ⟨u.heap.size, _, put_self _ hsz, Blk.new _ _ _, rfl⟩, fun j hj hF => F9_keep hF (put_other _ (Ne.symm (ne j hj))) (boxed _ _)⟩
      by_cases h15 : i = 15
      · subst h15
        obtain rfl := Option.some.inj ho
        obtain ⟨g, cs, y1, y2, y3⟩ : ∃ (p : Nat) (cs : Array Value), a.tmps.getD 10 undef = .pointer (some ⟨p, 0, none⟩) ∧ Blk u p 39 cs ∧ cs.size = 4 := hdep ⟨12, .data⟩ (by simp) rfl
        have x0 : a.tmps.getD 47 undef = .agg #[.bool true, .int .u64 (p2 : Int), .int .u64 (p3 : Int), .int .u8 (MM : Int)] := hdep ⟨3, .data⟩ (by simp) rfl
        obtain ⟨z0, z1, z2, z3, rfl⟩ := four_of y3
        have t0 := y2.cell 0
        have t1 := y2.cell 1
        have t2 := y2.cell 2
        have t3 := y2.cell 3
        simp at t0 t1 t2 t3
        have f0 := y2.frozen 0
        have f1 := y2.frozen 1
        have f2 := y2.frozen 2
        have f3 := y2.frozen 3
        have hg := (hJ.2.low 10 (by simp) _ y1).1
        obtain ⟨k1, k2⟩ := four y2 hJ.1 hg (v0 := .bool true) (v1 := .int .u64 (p2 : Int)) (v2 := .int .u64 (p3 : Int)) (v3 := .int .u8 (MM : Int))
        refine wpOp_step rfl (fun K' hK => ?_)
        go_simp
        refine hK _ _ ⟨hoff, ⟨k2, hJ.2.same (by simp)⟩, ⟨g, y1, k1⟩, fun j hj hF => ?_⟩
        exact F9_store hF y1 y2 k1 (fun h t c hh hb => by simpa using (((hb.far hh _).far hh _).far hh _).far hh _) hJ.2 (by simp) (by rintro rfl; exact getD_conf hun hj)
      by_cases h16 : i = 16
      · subst h16
        obtain rfl := Option.some.inj ho
        obtain ⟨g, cs, y1, y2, y3⟩ : ∃ (p : Nat) (cs : Array Value), a.tmps.getD 11 undef = .pointer (some ⟨p, 0, none⟩) ∧ Blk u p 39 cs ∧ cs.size = 4 := hdep ⟨13, .data⟩ (by simp) rfl
        have x0 : a.tmps.getD 51 undef = .agg #[.bool true, .int .u64 (q2 : Int), .int .u64 (q3 : Int), .int .u8 (NN : Int)] := hdep ⟨7, .data⟩ (by simp) rfl
        obtain ⟨z0, z1, z2, z3, rfl⟩ := four_of y3
        have t0 := y2.cell 0
        have t1 := y2.cell 1
        have t2 := y2.cell 2
        have t3 := y2.cell 3
        simp at t0 t1 t2 t3
        have f0 := y2.frozen 0
        have f1 := y2.frozen 1
        have f2 := y2.frozen 2
        have f3 := y2.frozen 3
        have hg := (hJ.2.low 11 (by simp) _ y1).1
        obtain ⟨k1, k2⟩ := four y2 hJ.1 hg (v0 := .bool true) (v1 := .int .u64 (q2 : Int)) (v2 := .int .u64 (q3 : Int)) (v3 := .int .u8 (NN : Int))
        refine wpOp_step rfl (fun K' hK => ?_)
        go_simp
        refine hK _ _ ⟨hoff, ⟨k2, hJ.2.same (by simp)⟩, ⟨g, y1, k1⟩, fun j hj hF => ?_⟩
        exact F9_store hF y1 y2 k1 (fun h t c hh hb => by simpa using (((hb.far hh _).far hh _).far hh _).far hh _) hJ.2 (by simp) (by rintro rfl; exact getD_conf hun hj)
      by_cases h17 : i = 17
      · subst h17
        obtain rfl := Option.some.inj ho
        obtain ⟨g, cs, y1, y2, y3⟩ : ∃ (p : Nat) (cs : Array Value), a.tmps.getD 12 undef = .pointer (some ⟨p, 0, none⟩) ∧ Blk u p 39 cs ∧ cs.size = 4 := hdep ⟨14, .data⟩ (by simp) rfl
        have x0 : a.tmps.getD 55 undef = .agg #[.bool true, .int .u64 (r2 : Int), .int .u64 (r3 : Int), .int .u8 (NN : Int)] := hdep ⟨11, .data⟩ (by simp) rfl
        obtain ⟨z0, z1, z2, z3, rfl⟩ := four_of y3
        have t0 := y2.cell 0
        have t1 := y2.cell 1
        have t2 := y2.cell 2
        have t3 := y2.cell 3
        simp at t0 t1 t2 t3
        have f0 := y2.frozen 0
        have f1 := y2.frozen 1
        have f2 := y2.frozen 2
        have f3 := y2.frozen 3
        have hg := (hJ.2.low 12 (by simp) _ y1).1
        obtain ⟨k1, k2⟩ := four y2 hJ.1 hg (v0 := .bool true) (v1 := .int .u64 (r2 : Int)) (v2 := .int .u64 (r3 : Int)) (v3 := .int .u8 (NN : Int))
        refine wpOp_step rfl (fun K' hK => ?_)
        go_simp
        refine hK _ _ ⟨hoff, ⟨k2, hJ.2.same (by simp)⟩, ⟨g, y1, k1⟩, fun j hj hF => ?_⟩
        exact F9_store hF y1 y2 k1 (fun h t c hh hb => by simpa using (((hb.far hh _).far hh _).far hh _).far hh _) hJ.2 (by simp) (by rintro rfl; exact getD_conf hun hj)
      omega
    case hend =>
      intro a u hoff hJ hall
      obtain ⟨p, y1, k1⟩ : ∃ p : Nat, a.tmps.getD 10 undef = .pointer (some ⟨p, 0, none⟩) ∧ Blk u p 39 #[.bool true, .int .u64 (p2 : Int), .int .u64 (p3 : Int), .int .u8 (MM : Int)] := hall 15 (by decide)
      obtain ⟨q, y2, k2⟩ : ∃ p : Nat, a.tmps.getD 11 undef = .pointer (some ⟨p, 0, none⟩) ∧ Blk u p 39 #[.bool true, .int .u64 (q2 : Int), .int .u64 (q3 : Int), .int .u8 (NN : Int)] := hall 16 (by decide)
      obtain ⟨r, y3, k3⟩ : ∃ p : Nat, a.tmps.getD 12 undef = .pointer (some ⟨p, 0, none⟩) ∧ Blk u p 39 #[.bool true, .int .u64 (r2 : Int), .int .u64 (r3 : Int), .int .u8 (NN : Int)] := hall 17 (by decide)
      have e := hoff.eq
      simp only [putL] at e
      rw [y1, y2, y3] at e
      generalize a.tmps.getD 44 undef = s44 at e
      generalize a.tmps.getD 45 undef = s45 at e
      generalize a.tmps.getD 46 undef = s46 at e
      generalize a.tmps.getD 47 undef = s47 at e
      generalize a.tmps.getD 48 undef = s48 at e
      generalize a.tmps.getD 49 undef = s49 at e
      generalize a.tmps.getD 50 undef = s50 at e
      generalize a.tmps.getD 51 undef = s51 at e
      generalize a.tmps.getD 52 undef = s52 at e
      generalize a.tmps.getD 53 undef = s53 at e
      generalize a.tmps.getD 54 undef = s54 at e
      generalize a.tmps.getD 55 undef = s55 at e
      have hb1 := hJ.1
      clear hall hoff hJ y1 y2 y3
      subst e
      go_wp2_with fail
      go_meet
      exact ⟨p, q, r, rfl, rfl, rfl, hb1, k1, k2, k3⟩
  case rest =>
  obtain ⟨p, q, r, rfl, rfl, rfl, hbw, hp, hq, hr⟩ := hcut
  have hv := after hv3 hbw
  have ha := ha3.below hbw ha3.lt
  have hb := hb3.below hbw hb3.lt
  clear hv3 ha3 hb3 hbw a0 a1 a2 b0 b1 b2 HC1 HC2 HC3
  have hza : (Ad.mk true ah al).size = 128 := rfl
  have hM' : MM ≤ (Ad.mk true ah al).size := by rw [hza]; omega
  have hN' : NN ≤ (Ad.mk true ah al).size := by rw [hza]; omega
  have ok1 : (Pf.mk ⟨true, p2, p3⟩ MM).Ok := ⟨by show (Ad.mk true p2 p3).Ok; rw [HP1.out]; exact cut_ok oka MM, by show MM < 256; omega⟩
  have ok2 : (Pf.mk ⟨true, q2, q3⟩ NN).Ok := ⟨by show (Ad.mk true q2 q3).Ok; rw [HP2.out]; exact cut_ok oka NN, by show NN < 256; omega⟩
  have m1 := fun u => mayPrefix_any ⟨⟨true, p2, p3⟩, MM⟩ ok1 u
  have m2 := fun u => mayPrefix_any ⟨⟨true, q2, q3⟩, NN⟩ ok2 u
  have g1 := fun u => holds_any ⟨⟨true, p2, p3⟩, MM⟩ ⟨true, ah, al⟩ ok1 oka u
  have g2 := fun u => holds_any ⟨⟨true, q2, q3⟩, NN⟩ ⟨true, ah, al⟩ ok2 oka u
  have g3 := fun u => holds_any ⟨⟨true, q2, q3⟩, NN⟩ ⟨true, bh, bl⟩ ok2 okb u
  have g4 := fun u => holds_any ⟨⟨true, p2, p3⟩, MM⟩ ⟨true, bh, bl⟩ ok1 okb u
  have l1 := fun u => less_any ⟨true, ah, al⟩ ⟨true, bh, bl⟩ u
  have l2 := fun u => less_any ⟨true, bh, bl⟩ ⟨true, ah, al⟩ u
  have i1 : pmay ⟨⟨true, p2, p3⟩, MM⟩ = true := by rw [HP1.out]; exact cut_pmay oka hma hM'
  have i2 : pmay ⟨⟨true, q2, q3⟩, NN⟩ = true := by rw [HP2.out]; exact cut_pmay oka hma hN'
  have i3 : holdsP ⟨⟨true, p2, p3⟩, MM⟩ ⟨true, ah, al⟩ = true := by rw [HP1.out, cut_holds oka hma hM' _ hma rfl]; exact decide_eq_true rfl
  have i4 : holdsP ⟨⟨true, q2, q3⟩, NN⟩ ⟨true, ah, al⟩ = true := by rw [HP2.out, cut_holds oka hma hN' _ hma rfl]; exact decide_eq_true rfl
  have i5 : holdsP ⟨⟨true, q2, q3⟩, NN⟩ ⟨true, bh, bl⟩ = decide ((Ad.mk true bh bl).val / 2 ^ (128 - NN) = (Ad.mk true ah al).val / 2 ^ (128 - NN)) := by rw [HP2.out, cut_holds oka hma hN' _ hmb rfl]; rfl
  have i6 : holdsP ⟨⟨true, p2, p3⟩, MM⟩ ⟨true, bh, bl⟩ = decide ((Ad.mk true bh bl).val / 2 ^ (128 - MM) = (Ad.mk true ah al).val / 2 ^ (128 - MM)) := by rw [HP1.out, cut_holds oka hma hM' _ hmb rfl]; rfl
  have i7 : (Ad.mk true r2 r3 = Ad.mk true q2 q3) ↔ (Ad.mk true bh bl).val / 2 ^ (128 - NN) = (Ad.mk true ah al).val / 2 ^ (128 - NN) := by rw [HP2.out, HP3.out]; exact cut_same oka okb hma hmb rfl hN'
  rw [i1] at m1
  rw [i2] at m2
  rw [i3] at g1
  rw [i4] at g2
  rw [i5] at g3
  rw [i6] at g4
  clear i1 i2 i3 i4 i5 i6 ok1 ok2 HP1 HP2 HP3
  unfold Pf.cells Ad.cells at *
  simp only at m1 m2 g1 g2 g3 g4 l1 l2
  have HM1 := Lib.hid m1
  have HM2 := Lib.hid m2
  have HG1 := Lib.hid g1
  have HG2 := Lib.hid g2
  clear m1 m2 g1 g2
  by_cases hsame : (Ad.mk true bh bl).val / 2 ^ (128 - NN) = (Ad.mk true ah al).val / 2 ^ (128 - NN)
  · have hcoarse : (Ad.mk true bh bl).val / 2 ^ (128 - MM) = (Ad.mk true ah al).val / 2 ^ (128 - MM) := div_coarser (by omega) hsame
    have e := i7.2 hsame
    injection e with _ e2 e3
    subst e2 e3
    simp only [decide_eq_true hsame] at g3
    simp only [decide_eq_true hcoarse] at g4
    have HG3 := Lib.hid g3
    have HG4 := Lib.hid g4
    clear g3 g4 hsame hcoarse i7
    have a0 := ha.cell 0; have a1 := ha.cell 1; have a2 := ha.cell 2; have b0 := hb.cell 0; have b1 := hb.cell 1; have b2 := hb.cell 2; have cp0 := hp.cell 0; have cp1 := hp.cell 1; have cp2 := hp.cell 2; have cp3 := hp.cell 3; have cq0 := hq.cell 0; have cq1 := hq.cell 1; have cq2 := hq.cell 2; have cq3 := hq.cell 3; have cr0 := hr.cell 0; have cr1 := hr.cell 1; have cr2 := hr.cell 2; have cr3 := hr.cell 3; simp at a0 a1 a2 b0 b1 b2 cp0 cp1 cp2 cp3 cq0 cq1 cq2 cq3 cr0 cr1 cr2 cr3; clear oka okb hza hM' hN' hMN hNN
    go_upto_region 14 with (first | (go_at_call 22; (with_reducible refine (HM1.out _).mono ?_); rintro r9 w9 ⟨rfl, gq⟩; have hv := after hv gq; have ha := ha.below gq ha.lt; have hb := hb.below gq hb.lt; have hp := hp.below gq hp.lt; have hq := hq.below gq hq.lt; have hr := hr.below gq hr.lt; clear gq; have a0 := ha.cell 0; have a1 := ha.cell 1; have a2 := ha.cell 2; have b0 := hb.cell 0; have b1 := hb.cell 1; have b2 := hb.cell 2; have cp0 := hp.cell 0; have cp1 := hp.cell 1; have cp2 := hp.cell 2; have cp3 := hp.cell 3; have cq0 := hq.cell 0; have cq1 := hq.cell 1; have cq2 := hq.cell 2; have cq3 := hq.cell 3; have cr0 := hr.cell 0; have cr1 := hr.cell 1; have cr2 := hr.cell 2; have cr3 := hr.cell 3; simp at a0 a1 a2 b0 b1 b2 cp0 cp1 cp2 cp3 cq0 cq1 cq2 cq3 cr0 cr1 cr2 cr3) | (go_at_call 22; (with_reducible refine (HM2.out _).mono ?_); rintro r9 w9 ⟨rfl, gq⟩; have hv := after hv gq; have ha := ha.below gq ha.lt; have hb := hb.below gq hb.lt; have hp := hp.below gq hp.lt; have hq := hq.below gq hq.lt; have hr := hr.below gq hr.lt; clear gq; have a0 := ha.cell 0; have a1 := ha.cell 1; have a2 := ha.cell 2; have b0 := hb.cell 0; have b1 := hb.cell 1; have b2 := hb.cell 2; have cp0 := hp.cell 0; have cp1 := hp.cell 1; have cp2 := hp.cell 2; have cp3 := hp.cell 3; have cq0 := hq.cell 0; have cq1 := hq.cell 1; have cq2 := hq.cell 2; have cq3 := hq.cell 3; have cr0 := hr.cell 0; have cr1 := hr.cell 1; have cr2 := hr.cell 2; have cr3 := hr.cell 3; simp at a0 a1 a2 b0 b1 b2 cp0 cp1 cp2 cp3 cq0 cq1 cq2 cq3 cr0 cr1 cr2 cr3) | (go_at_call 28; (with_reducible refine (HG1.out _).mono ?_); rintro r9 w9 ⟨rfl, gq⟩; have hv := after hv gq; have ha := ha.below gq ha.lt; have hb := hb.below gq hb.lt; have hp := hp.below gq hp.lt; have hq := hq.below gq hq.lt; have hr := hr.below gq hr.lt; clear gq; have a0 := ha.cell 0; have a1 := ha.cell 1; have a2 := ha.cell 2; have b0 := hb.cell 0; have b1 := hb.cell 1; have b2 := hb.cell 2; have cp0 := hp.cell 0; have cp1 := hp.cell 1; have cp2 := hp.cell 2; have cp3 := hp.cell 3; have cq0 := hq.cell 0; have cq1 := hq.cell 1; have cq2 := hq.cell 2; have cq3 := hq.cell 3; have cr0 := hr.cell 0; have cr1 := hr.cell 1; have cr2 := hr.cell 2; have cr3 := hr.cell 3; simp at a0 a1 a2 b0 b1 b2 cp0 cp1 cp2 cp3 cq0 cq1 cq2 cq3 cr0 cr1 cr2 cr3) | (go_at_call 28; (with_reducible refine (HG2.out _).mono ?_); rintro r9 w9 ⟨rfl, gq⟩; have hv := after hv gq; have ha := ha.below gq ha.lt; have hb := hb.below gq hb.lt; have hp := hp.below gq hp.lt; have hq := hq.below gq hq.lt; have hr := hr.below gq hr.lt; clear gq; have a0 := ha.cell 0; have a1 := ha.cell 1; have a2 := ha.cell 2; have b0 := hb.cell 0; have b1 := hb.cell 1; have b2 := hb.cell 2; have cp0 := hp.cell 0; have cp1 := hp.cell 1; have cp2 := hp.cell 2; have cp3 := hp.cell 3; have cq0 := hq.cell 0; have cq1 := hq.cell 1; have cq2 := hq.cell 2; have cq3 := hq.cell 3; have cr0 := hr.cell 0; have cr1 := hr.cell 1; have cr2 := hr.cell 2; have cr3 := hr.cell 3; simp at a0 a1 a2 b0 b1 b2 cp0 cp1 cp2 cp3 cq0 cq1 cq2 cq3 cr0 cr1 cr2 cr3) | (go_at_call 28; (with_reducible refine (HG3.out _).mono ?_); rintro r9 w9 ⟨rfl, gq⟩; have hv := after hv gq; have ha := ha.below gq ha.lt; have hb := hb.below gq hb.lt; have hp := hp.below gq hp.lt; have hq := hq.below gq hq.lt; have hr := hr.below gq hr.lt; clear gq; have a0 := ha.cell 0; have a1 := ha.cell 1; have a2 := ha.cell 2; have b0 := hb.cell 0; have b1 := hb.cell 1; have b2 := hb.cell 2; have cp0 := hp.cell 0; have cp1 := hp.cell 1; have cp2 := hp.cell 2; have cp3 := hp.cell 3; have cq0 := hq.cell 0; have cq1 := hq.cell 1; have cq2 := hq.cell 2; have cq3 := hq.cell 3; have cr0 := hr.cell 0; have cr1 := hr.cell 1; have cr2 := hr.cell 2; have cr3 := hr.cell 3; simp at a0 a1 a2 b0 b1 b2 cp0 cp1 cp2 cp3 cq0 cq1 cq2 cq3 cr0 cr1 cr2 cr3) | (go_at_call 28; (with_reducible refine (HG4.out _).mono ?_); rintro r9 w9 ⟨rfl, gq⟩; have hv := after hv gq; have ha := ha.below gq ha.lt; have hb := hb.below gq hb.lt; have hp := hp.below gq hp.lt; have hq := hq.below gq hq.lt; have hr := hr.below gq hr.lt; clear gq; have a0 := ha.cell 0; have a1 := ha.cell 1; have a2 := ha.cell 2; have b0 := hb.cell 0; have b1 := hb.cell 1; have b2 := hb.cell 2; have cp0 := hp.cell 0; have cp1 := hp.cell 1; have cp2 := hp.cell 2; have cp3 := hp.cell 3; have cq0 := hq.cell 0; have cq1 := hq.cell 1; have cq2 := hq.cell 2; have cq3 := hq.cell 3; have cr0 := hr.cell 0; have cr1 := hr.cell 1; have cr2 := hr.cell 2; have cr3 := hr.cell 3; simp at a0 a1 a2 b0 b1 b2 cp0 cp1 cp2 cp3 cq0 cq1 cq2 cq3 cr0 cr1 cr2 cr3) | (go_at_call 30; (with_reducible refine (HL1.out _).mono ?_); rintro r9 w9 ⟨rfl, gq⟩; have hv := after hv gq; have ha := ha.below gq ha.lt; have hb := hb.below gq hb.lt; have hp := hp.below gq hp.lt; have hq := hq.below gq hq.lt; have hr := hr.below gq hr.lt; clear gq; have a0 := ha.cell 0; have a1 := ha.cell 1; have a2 := ha.cell 2; have b0 := hb.cell 0; have b1 := hb.cell 1; have b2 := hb.cell 2; have cp0 := hp.cell 0; have cp1 := hp.cell 1; have cp2 := hp.cell 2; have cp3 := hp.cell 3; have cq0 := hq.cell 0; have cq1 := hq.cell 1; have cq2 := hq.cell 2; have cq3 := hq.cell 3; have cr0 := hr.cell 0; have cr1 := hr.cell 1; have cr2 := hr.cell 2; have cr3 := hr.cell 3; simp at a0 a1 a2 b0 b1 b2 cp0 cp1 cp2 cp3 cq0 cq1 cq2 cq3 cr0 cr1 cr2 cr3) | (go_at_call 30; (with_reducible refine (HL2.out _).mono ?_); rintro r9 w9 ⟨rfl, gq⟩; have hv := after hv gq; have ha := ha.below gq ha.lt; have hb := hb.below gq hb.lt; have hp := hp.below gq hp.lt; have hq := hq.below gq hq.lt; have hr := hr.below gq hr.lt; clear gq; have a0 := ha.cell 0; have a1 := ha.cell 1; have a2 := ha.cell 2; have b0 := hb.cell 0; have b1 := hb.cell 1; have b2 := hb.cell 2; have cp0 := hp.cell 0; have cp1 := hp.cell 1; have cp2 := hp.cell 2; have cp3 := hp.cell 3; have cq0 := hq.cell 0; have cq1 := hq.cell 1; have cq2 := hq.cell 2; have cq3 := hq.cell 3; have cr0 := hr.cell 0; have cr1 := hr.cell 1; have cr2 := hr.cell 2; have cr3 := hr.cell 3; simp at a0 a1 a2 b0 b1 b2 cp0 cp1 cp2 cp3 cq0 cq1 cq2 cq3 cr0 cr1 cr2 cr3) | (go_at_call 9; (with_reducible refine (HWK.out _ hv).mono ?_); rintro r9 w9 ⟨rfl, gq⟩; have hv := after hv gq; have ha := ha.below gq ha.lt; have hb := hb.below gq hb.lt; have hp := hp.below gq hp.lt; have hq := hq.below gq hq.lt; have hr := hr.below gq hr.lt; clear gq; have a0 := ha.cell 0; have a1 := ha.cell 1; have a2 := ha.cell 2; have b0 := hb.cell 0; have b1 := hb.cell 1; have b2 := hb.cell 2; have cp0 := hp.cell 0; have cp1 := hp.cell 1; have cp2 := hp.cell 2; have cp3 := hp.cell 3; have cq0 := hq.cell 0; have cq1 := hq.cell 1; have cq2 := hq.cell 2; have cq3 := hq.cell 3; have cr0 := hr.cell 0; have cr1 := hr.cell 1; have cr2 := hr.cell 2; have cr3 := hr.cell 3; simp at a0 a1 a2 b0 b1 b2 cp0 cp1 cp2 cp3 cq0 cq1 cq2 cq3 cr0 cr1 cr2 cr3))
    have hk : K14 w true w.heap.size (w.heap.size + 1) q r ah al bh bl r2 r3 r2 r3 NN _ := ⟨hv.drew, ha.drew, hb.drew, hq.drew, hr.drew⟩
    clear a0 a1 a2 b0 b1 b2 cp0 cp1 cp2 cp3 cq0 cq1 cq2 cq3 cr0 cr1 cr2 cr3 hv ha hb hp hq hr
    by_cases hab : Ad.mk true ah al = Ad.mk true bh bl
    · have hls := (less_same _ _).1 hab
      rw [hls.1] at l1
      rw [hls.2] at l2
      injection hab with _ e2 e3
      subst e2 e3
      have HL1 := Lib.hid l1
      have HL2 := Lib.hid l2
      clear l1 l2 hls
      refine wp_region_held_drew (S := S14 true w.heap.size (w.heap.size + 1) q r ah al ah al r2 r3 r2 r3 NN) (by kernel_rfl) hk.S (fun hHeld => ?_)
      refine' wpAnyH_take (i := 0) (v := _) rfl (by kernel_rfl) (by kernel_rfl) (by kernel_rfl) (fun _ _ _ h => h) (Or.inl ⟨by rfl, ?ly352⟩) (by assumption) ?lrest352
      case ly352 =>
        intro w hSw
        unfold S14 at hSw
        go_simp
        try with_reducible rfl
      try simp only [Act.put, List.setIfInBounds_toArray, List.set_cons_zero, List.set_cons_succ, List.getElem_toArray, List.getElem_cons_zero, List.getElem_cons_succ]
      refine' wpAnyH_take (i := 1) (v := _) rfl (by kernel_rfl) (by kernel_rfl) (by kernel_rfl) (fun _ _ _ h => h) (Or.inl ⟨by rfl, ?ly353⟩) (by assumption) ?lrest353
      case ly353 =>
        intro w hSw
        unfold S14 at hSw
        go_simp
        try with_reducible rfl
      try simp only [Act.put, List.setIfInBounds_toArray, List.set_cons_zero, List.set_cons_succ, List.getElem_toArray, List.getElem_cons_zero, List.getElem_cons_succ]
      refine' wpAnyH_take (i := 3) (v := _) rfl (by kernel_rfl) (by kernel_rfl) (by kernel_rfl) (fun _ _ _ h => h) (Or.inl ⟨by rfl, ?ly354⟩) (by assumption) ?lrest354
      case ly354 =>
        intro w hSw
        unfold S14 at hSw
        go_simp
        try with_reducible rfl
      try simp only [Act.put, List.setIfInBounds_toArray, List.set_cons_zero, List.set_cons_succ, List.getElem_toArray, List.getElem_cons_zero, List.getElem_cons_succ]
      refine' wpAnyH_take (i := 4) (v := _) rfl (by kernel_rfl) (by kernel_rfl) (by kernel_rfl) (fun _ _ _ h => h) (Or.inl ⟨by rfl, ?ly355⟩) (by assumption) ?lrest355
      case ly355 =>
        intro w hSw
        unfold S14 at hSw
        go_simp
        try with_reducible rfl
      try simp only [Act.put, List.setIfInBounds_toArray, List.set_cons_zero, List.set_cons_succ, List.getElem_toArray, List.getElem_cons_zero, List.getElem_cons_succ]
      refine' wpAnyH_take (i := 5) (v := _) rfl (by kernel_rfl) (by kernel_rfl) (by kernel_rfl) (fun _ _ _ h => h) (Or.inl ⟨by rfl, ?ly356⟩) (by assumption) ?lrest356
      case ly356 =>
        intro w hSw
        unfold S14 at hSw
        go_simp
        try with_reducible rfl
      try simp only [Act.put, List.setIfInBounds_toArray, List.set_cons_zero, List.set_cons_succ, List.getElem_toArray, List.getElem_cons_zero, List.getElem_cons_succ]
      refine wpAnyH_ready (rs := [2]) (by kernel_rfl) (by simp) ?_
      refine AllReadyH.cons rfl (fun K hK => ?_) AllReadyH.nil
      go_simp
      refine (HG3.out _).mono ?_
      rintro r9 w9 ⟨rfl, gq⟩
      have hk := hk.step gq
      refine hK.out _ _ hk.S (fun hHeld => ?_)
      clear hK K
      try simp only [Act.put, List.setIfInBounds_toArray, List.set_cons_zero, List.set_cons_succ, List.getElem_toArray, List.getElem_cons_zero, List.getElem_cons_succ]
      refine' wpAnyH_take (i := 6) (v := _) rfl (by kernel_rfl) (by kernel_rfl) (by kernel_rfl) (fun _ _ _ h => h) (Or.inl ⟨by rfl, ?ly358⟩) (by assumption) ?lrest358
      case ly358 =>
        intro w hSw
        unfold S14 at hSw
        go_simp
        try with_reducible rfl
      try simp only [Act.put, List.setIfInBounds_toArray, List.set_cons_zero, List.set_cons_succ, List.getElem_toArray, List.getElem_cons_zero, List.getElem_cons_succ]
      refine' wpAnyH_take (i := 7) (v := _) rfl (by kernel_rfl) (by kernel_rfl) (by kernel_rfl) (fun _ _ _ h => h) (Or.inl ⟨by rfl, ?ly359⟩) (by assumption) ?lrest359
      case ly359 =>
        intro w hSw
        unfold S14 at hSw
        go_simp
        try with_reducible rfl
      try simp only [Act.put, List.setIfInBounds_toArray, List.set_cons_zero, List.set_cons_succ, List.getElem_toArray, List.getElem_cons_zero, List.getElem_cons_succ]
      refine' wpAnyH_take (i := 8) (v := _) rfl (by kernel_rfl) (by kernel_rfl) (by kernel_rfl) (fun _ _ _ h => h) (Or.inl ⟨by rfl, ?ly360⟩) (by assumption) ?lrest360
      case ly360 =>
        intro w hSw
        unfold S14 at hSw
        go_simp
        try with_reducible rfl
      try simp only [Act.put, List.setIfInBounds_toArray, List.set_cons_zero, List.set_cons_succ, List.getElem_toArray, List.getElem_cons_zero, List.getElem_cons_succ]
      refine' wpAnyH_take (i := 9) (v := _) rfl (by kernel_rfl) (by kernel_rfl) (by kernel_rfl) (fun _ _ _ h => h) (Or.inl ⟨by rfl, ?ly361⟩) (by assumption) ?lrest361
      case ly361 =>
        intro w hSw
        unfold S14 at hSw
        go_simp
        try with_reducible rfl
      try simp only [Act.put, List.setIfInBounds_toArray, List.set_cons_zero, List.set_cons_succ, List.getElem_toArray, List.getElem_cons_zero, List.getElem_cons_succ]
      refine' wpAnyH_take (i := 10) (v := _) rfl (by kernel_rfl) (by kernel_rfl) (by kernel_rfl) (fun _ _ _ h => h) (Or.inl ⟨by rfl, ?ly362⟩) (by assumption) ?lrest362
      case ly362 =>
        intro w hSw
        unfold S14 at hSw
        go_simp
        try with_reducible rfl
      try simp only [Act.put, List.setIfInBounds_toArray, List.set_cons_zero, List.set_cons_succ, List.getElem_toArray, List.getElem_cons_zero, List.getElem_cons_succ]
      refine' wpAnyH_take (i := 11) (v := _) rfl (by kernel_rfl) (by kernel_rfl) (by kernel_rfl) (fun _ _ _ h => h) (Or.inl ⟨by rfl, ?ly363⟩) (by assumption) ?lrest363
      case ly363 =>
        intro w hSw
        unfold S14 at hSw
        go_simp
        try with_reducible rfl
      try simp only [Act.put, List.setIfInBounds_toArray, List.set_cons_zero, List.set_cons_succ, List.getElem_toArray, List.getElem_cons_zero, List.getElem_cons_succ]
      refine' wpAnyH_take (i := 12) (v := _) rfl (by kernel_rfl) (by kernel_rfl) (by kernel_rfl) (fun _ _ _ h => h) (Or.inl ⟨by rfl, ?ly364⟩) (by assumption) ?lrest364
      case ly364 =>
        intro w hSw
        unfold S14 at hSw
        go_simp
        try with_reducible rfl
      try simp only [Act.put, List.setIfInBounds_toArray, List.set_cons_zero, List.set_cons_succ, List.getElem_toArray, List.getElem_cons_zero, List.getElem_cons_succ]
      refine wpAnyH_ready (rs := [13]) (by kernel_rfl) (by simp) ?_
      refine AllReadyH.cons rfl (fun K hK => ?_) AllReadyH.nil
      go_simp
      refine (HL1.out _).mono ?_
      rintro r9 w9 ⟨rfl, gq⟩
      have hk := hk.step gq
      refine hK.out _ _ hk.S (fun hHeld => ?_)
      clear hK K
      try simp only [Act.put, List.setIfInBounds_toArray, List.set_cons_zero, List.set_cons_succ, List.getElem_toArray, List.getElem_cons_zero, List.getElem_cons_succ]
      refine' wpAnyH_take (i := 14) (v := _) rfl (by kernel_rfl) (by kernel_rfl) (by kernel_rfl) (fun _ _ _ h => h) (Or.inl ⟨by rfl, ?ly366⟩) (by assumption) ?lrest366
      case ly366 =>
        intro w hSw
        unfold S14 at hSw
        go_simp
        try with_reducible rfl
      try simp only [Act.put, List.setIfInBounds_toArray, List.set_cons_zero, List.set_cons_succ, List.getElem_toArray, List.getElem_cons_zero, List.getElem_cons_succ]
      refine' wpAnyH_take (i := 15) (v := _) rfl (by kernel_rfl) (by kernel_rfl) (by kernel_rfl) (fun _ _ _ h => h) (Or.inl ⟨by rfl, ?ly367⟩) (by assumption) ?lrest367
      case ly367 =>
        intro w hSw
        unfold S14 at hSw
        go_simp
        try with_reducible rfl
      try simp only [Act.put, List.setIfInBounds_toArray, List.set_cons_zero, List.set_cons_succ, List.getElem_toArray, List.getElem_cons_zero, List.getElem_cons_succ]
      refine' wpAnyH_take (i := 16) (v := _) rfl (by kernel_rfl) (by kernel_rfl) (by kernel_rfl) (fun _ _ _ h => h) (Or.inl ⟨by rfl, ?ly368⟩) (by assumption) ?lrest368
      case ly368 =>
        intro w hSw
        unfold S14 at hSw
        go_simp
        try with_reducible rfl
      try simp only [Act.put, List.setIfInBounds_toArray, List.set_cons_zero, List.set_cons_succ, List.getElem_toArray, List.getElem_cons_zero, List.getElem_cons_succ]
      refine' wpAnyH_take (i := 17) (v := _) rfl (by kernel_rfl) (by kernel_rfl) (by kernel_rfl) (fun _ _ _ h => h) (Or.inl ⟨by rfl, ?ly369⟩) (by assumption) ?lrest369
      case ly369 =>
        intro w hSw
        unfold S14 at hSw
        go_simp
        try with_reducible rfl
      try simp only [Act.put, List.setIfInBounds_toArray, List.set_cons_zero, List.set_cons_succ, List.getElem_toArray, List.getElem_cons_zero, List.getElem_cons_succ]
      refine wpAnyH_ready (rs := [18]) (by kernel_rfl) (by simp) ?_
      refine AllReadyH.cons rfl (fun K hK => ?_) AllReadyH.nil
      go_simp
      refine (HL2.out _).mono ?_
      rintro r9 w9 ⟨rfl, gq⟩
      have hk := hk.step gq
      refine hK.out _ _ hk.S (fun hHeld => ?_)
      clear hK K
      try simp only [Act.put, List.setIfInBounds_toArray, List.set_cons_zero, List.set_cons_succ, List.getElem_toArray, List.getElem_cons_zero, List.getElem_cons_succ]
      refine' wpAnyH_take (i := 19) (v := _) rfl (by kernel_rfl) (by kernel_rfl) (by kernel_rfl) (fun _ _ _ h => h) (Or.inl ⟨by rfl, ?ly371⟩) (by assumption) ?lrest371
      case ly371 =>
        intro w hSw
        unfold S14 at hSw
        go_simp
        try with_reducible rfl
      try simp only [Act.put, List.setIfInBounds_toArray, List.set_cons_zero, List.set_cons_succ, List.getElem_toArray, List.getElem_cons_zero, List.getElem_cons_succ]
      refine' wpAnyH_take (i := 20) (v := _) rfl (by kernel_rfl) (by kernel_rfl) (by kernel_rfl) (fun _ _ _ h => h) (Or.inl ⟨by rfl, ?ly372⟩) (by assumption) ?lrest372
      case ly372 =>
        intro w hSw
        unfold S14 at hSw
        go_simp
        try with_reducible rfl
      try simp only [Act.put, List.setIfInBounds_toArray, List.set_cons_zero, List.set_cons_succ, List.getElem_toArray, List.getElem_cons_zero, List.getElem_cons_succ]
      refine' wpAnyH_take (i := 21) (v := _) rfl (by kernel_rfl) (by kernel_rfl) (by kernel_rfl) (fun _ _ _ h => h) (Or.inl ⟨by rfl, ?ly373⟩) (by assumption) ?lrest373
      case ly373 =>
        intro w hSw
        unfold S14 at hSw
        go_simp
        try with_reducible rfl
      try simp only [Act.put, List.setIfInBounds_toArray, List.set_cons_zero, List.set_cons_succ, List.getElem_toArray, List.getElem_cons_zero, List.getElem_cons_succ]
      refine' wpAnyH_take (i := 22) (v := _) rfl (by kernel_rfl) (by kernel_rfl) (by kernel_rfl) (fun _ _ _ h => h) (Or.inl ⟨by rfl, ?ly374⟩) (by assumption) ?lrest374
      case ly374 =>
        intro w hSw
        unfold S14 at hSw
        go_simp
        try with_reducible rfl
      try simp only [Act.put, List.setIfInBounds_toArray, List.set_cons_zero, List.set_cons_succ, List.getElem_toArray, List.getElem_cons_zero, List.getElem_cons_succ]
      refine' wpAnyH_take (i := 23) (v := _) rfl (by kernel_rfl) (by kernel_rfl) (by kernel_rfl) (fun _ _ _ h => h) (Or.inl ⟨by rfl, ?ly375⟩) (by assumption) ?lrest375
      case ly375 =>
        intro w hSw
        unfold S14 at hSw
        go_simp
        try with_reducible rfl
      try simp only [Act.put, List.setIfInBounds_toArray, List.set_cons_zero, List.set_cons_succ, List.getElem_toArray, List.getElem_cons_zero, List.getElem_cons_succ]
      refine wpAnyH_ready (rs := [24]) (by kernel_rfl) (by simp) ?_
      refine AllReadyH.cons rfl (fun K hK => ?_) AllReadyH.nil
      go_simp
      refine (HWK.out _ hk.bel).mono ?_
      rintro r9 w9 ⟨rfl, gq⟩
      have hk := hk.step gq
      refine hK.out _ _ hk.S (fun hHeld => ?_)
      clear hK K
      try simp only [Act.put, List.setIfInBounds_toArray, List.set_cons_zero, List.set_cons_succ, List.getElem_toArray, List.getElem_cons_zero, List.getElem_cons_succ]
      refine' wpAnyH_take (i := 25) (v := _) rfl (by kernel_rfl) (by kernel_rfl) (by kernel_rfl) (fun _ _ _ h => h) (Or.inl ⟨by rfl, ?ly377⟩) (by assumption) ?lrest377
      case ly377 =>
        intro w hSw
        unfold S14 at hSw
        go_simp
        try with_reducible rfl
      try simp only [Act.put, List.setIfInBounds_toArray, List.set_cons_zero, List.set_cons_succ, List.getElem_toArray, List.getElem_cons_zero, List.getElem_cons_succ]
      refine' wpAnyH_take (i := 26) (v := _) rfl (by kernel_rfl) (by kernel_rfl) (by kernel_rfl) (fun _ _ _ h => h) (Or.inl ⟨by rfl, ?ly378⟩) (by assumption) ?lrest378
      case ly378 =>
        intro w hSw
        unfold S14 at hSw
        go_simp
        try with_reducible rfl
      try simp only [Act.put, List.setIfInBounds_toArray, List.set_cons_zero, List.set_cons_succ, List.getElem_toArray, List.getElem_cons_zero, List.getElem_cons_succ]
      refine wpAnyH_done (by kernel_rfl) ?_ _
      go_wp2_with fail
      go_ret
      exact ⟨rfl, hk.bel⟩
    · have hls := less_ne hab
      have hlt : (ah = bh ∧ al = bl) → False := by rintro ⟨rfl, rfl⟩; exact hab rfl
      generalize lessA ⟨true, ah, al⟩ ⟨true, bh, bl⟩ = L1 at l1 hls
      generalize lessA ⟨true, bh, bl⟩ ⟨true, ah, al⟩ = L2 at l2 hls
      have HL1 := Lib.hid l1
      have HL2 := Lib.hid l2
      clear l1 l2 hab
      have dj : ah ≠ bh ∨ (ah = bh ∧ al ≠ bl) := by
        rcases Nat.decEq ah bh with h | h
        · exact Or.inl h
        · exact Or.inr ⟨h, fun h' => hlt ⟨h, h'⟩⟩
      clear hlt
      rcases dj with dj | ⟨dj, dk⟩
      · have z1 : ((ah : Int) == (bh : Int)) = false := by simp; omega
        clear dj
        cases L1 with
        | false =>
          cases L2 with
          | false => exact absurd hls (by decide)
          | true =>
            clear hls
            refine wp_region_held_drew (S := S14 true w.heap.size (w.heap.size + 1) q r ah al bh bl r2 r3 r2 r3 NN) (by kernel_rfl) hk.S (fun hHeld => ?_)
            refine' wpAnyH_take (i := 0) (v := _) rfl (by kernel_rfl) (by kernel_rfl) (by kernel_rfl) (fun _ _ _ h => h) (Or.inl ⟨by rfl, ?ly379⟩) (by assumption) ?lrest379
            case ly379 =>
              intro w hSw
              unfold S14 at hSw
              go_simp
              try with_reducible rfl
            try simp only [Act.put, List.setIfInBounds_toArray, List.set_cons_zero, List.set_cons_succ, List.getElem_toArray, List.getElem_cons_zero, List.getElem_cons_succ]
            refine' wpAnyH_take (i := 1) (v := _) rfl (by kernel_rfl) (by kernel_rfl) (by kernel_rfl) (fun _ _ _ h => h) (Or.inl ⟨by rfl, ?ly380⟩) (by assumption) ?lrest380
            case ly380 =>
              intro w hSw
              unfold S14 at hSw
              go_simp
              try with_reducible rfl
            try simp only [Act.put, List.setIfInBounds_toArray, List.set_cons_zero, List.set_cons_succ, List.getElem_toArray, List.getElem_cons_zero, List.getElem_cons_succ]
            refine' wpAnyH_take (i := 3) (v := _) rfl (by kernel_rfl) (by kernel_rfl) (by kernel_rfl) (fun _ _ _ h => h) (Or.inl ⟨by rfl, ?ly381⟩) (by assumption) ?lrest381
            case ly381 =>
              intro w hSw
              unfold S14 at hSw
              go_simp
              try with_reducible rfl
            try simp only [Act.put, List.setIfInBounds_toArray, List.set_cons_zero, List.set_cons_succ, List.getElem_toArray, List.getElem_cons_zero, List.getElem_cons_succ]
            refine' wpAnyH_take (i := 4) (v := _) rfl (by kernel_rfl) (by kernel_rfl) (by kernel_rfl) (fun _ _ _ h => h) (Or.inl ⟨by rfl, ?ly382⟩) (by assumption) ?lrest382
            case ly382 =>
              intro w hSw
              unfold S14 at hSw
              go_simp
              try with_reducible rfl
            try simp only [Act.put, List.setIfInBounds_toArray, List.set_cons_zero, List.set_cons_succ, List.getElem_toArray, List.getElem_cons_zero, List.getElem_cons_succ]
            refine' wpAnyH_take (i := 5) (v := _) rfl (by kernel_rfl) (by kernel_rfl) (by kernel_rfl) (fun _ _ _ h => h) (Or.inl ⟨by rfl, ?ly383⟩) (by assumption) ?lrest383
            case ly383 =>
              intro w hSw
              unfold S14 at hSw
              go_simp
              try with_reducible rfl
            try simp only [Act.put, List.setIfInBounds_toArray, List.set_cons_zero, List.set_cons_succ, List.getElem_toArray, List.getElem_cons_zero, List.getElem_cons_succ]
            refine wpAnyH_ready (rs := [2]) (by kernel_rfl) (by simp) ?_
            refine AllReadyH.cons rfl (fun K hK => ?_) AllReadyH.nil
            go_simp
            refine (HG3.out _).mono ?_
            rintro r9 w9 ⟨rfl, gq⟩
            have hk := hk.step gq
            refine hK.out _ _ hk.S (fun hHeld => ?_)
            clear hK K
            try simp only [Act.put, List.setIfInBounds_toArray, List.set_cons_zero, List.set_cons_succ, List.getElem_toArray, List.getElem_cons_zero, List.getElem_cons_succ]
            refine' wpAnyH_take (i := 6) (v := _) rfl (by kernel_rfl) (by kernel_rfl) (by kernel_rfl) (fun _ _ _ h => h) (Or.inl ⟨by rfl, ?ly385⟩) (by assumption) ?lrest385
            case ly385 =>
              intro w hSw
              unfold S14 at hSw
              go_simp
              try with_reducible rfl
            try simp only [Act.put, List.setIfInBounds_toArray, List.set_cons_zero, List.set_cons_succ, List.getElem_toArray, List.getElem_cons_zero, List.getElem_cons_succ]
            refine' wpAnyH_take (i := 7) (v := _) rfl (by kernel_rfl) (by kernel_rfl) (by kernel_rfl) (fun _ _ _ h => h) (Or.inl ⟨by rfl, ?ly386⟩) (by assumption) ?lrest386
            case ly386 =>
              intro w hSw
              unfold S14 at hSw
              go_simp
              try with_reducible rfl
            try simp only [Act.put, List.setIfInBounds_toArray, List.set_cons_zero, List.set_cons_succ, List.getElem_toArray, List.getElem_cons_zero, List.getElem_cons_succ]
            refine' wpAnyH_take (i := 8) (v := _) rfl (by kernel_rfl) (by kernel_rfl) (by kernel_rfl) (fun _ _ _ h => h) (Or.inl ⟨by rfl, ?ly387⟩) (by assumption) ?lrest387
            case ly387 =>
              intro w hSw
              unfold S14 at hSw
              go_simp
              try with_reducible rfl
            try simp only [Act.put, List.setIfInBounds_toArray, List.set_cons_zero, List.set_cons_succ, List.getElem_toArray, List.getElem_cons_zero, List.getElem_cons_succ]
            refine' wpAnyH_take (i := 9) (v := _) rfl (by kernel_rfl) (by kernel_rfl) (by kernel_rfl) (fun _ _ _ h => h) (Or.inl ⟨by rfl, ?ly388⟩) (by assumption) ?lrest388
            case ly388 =>
              intro w hSw
              unfold S14 at hSw
              go_simp
              try with_reducible rfl
            try simp only [Act.put, List.setIfInBounds_toArray, List.set_cons_zero, List.set_cons_succ, List.getElem_toArray, List.getElem_cons_zero, List.getElem_cons_succ]
            refine' wpAnyH_take (i := 10) (v := _) rfl (by kernel_rfl) (by kernel_rfl) (by kernel_rfl) (fun _ _ _ h => h) (Or.inl ⟨by rfl, ?ly389⟩) (by assumption) ?lrest389
            case ly389 =>
              intro w hSw
              unfold S14 at hSw
              go_simp
              try with_reducible rfl
            try simp only [Act.put, List.setIfInBounds_toArray, List.set_cons_zero, List.set_cons_succ, List.getElem_toArray, List.getElem_cons_zero, List.getElem_cons_succ]
            refine' wpAnyH_take (i := 11) (v := _) rfl (by kernel_rfl) (by kernel_rfl) (by kernel_rfl) (fun _ _ _ h => h) (Or.inl ⟨by rfl, ?ly390⟩) (by assumption) ?lrest390
            case ly390 =>
              intro w hSw
              unfold S14 at hSw
              go_simp
              try with_reducible rfl
            try simp only [Act.put, List.setIfInBounds_toArray, List.set_cons_zero, List.set_cons_succ, List.getElem_toArray, List.getElem_cons_zero, List.getElem_cons_succ]
            refine' wpAnyH_take (i := 12) (v := _) rfl (by kernel_rfl) (by kernel_rfl) (by kernel_rfl) (fun _ _ _ h => h) (Or.inl ⟨by rfl, ?ly391⟩) (by assumption) ?lrest391
            case ly391 =>
              intro w hSw
              unfold S14 at hSw
              go_simp
              try with_reducible rfl
            try simp only [Act.put, List.setIfInBounds_toArray, List.set_cons_zero, List.set_cons_succ, List.getElem_toArray, List.getElem_cons_zero, List.getElem_cons_succ]
            refine wpAnyH_ready (rs := [13]) (by kernel_rfl) (by simp) ?_
            refine AllReadyH.cons rfl (fun K hK => ?_) AllReadyH.nil
            go_simp
            refine (HL1.out _).mono ?_
            rintro r9 w9 ⟨rfl, gq⟩
            have hk := hk.step gq
            refine hK.out _ _ hk.S (fun hHeld => ?_)
            clear hK K
            try simp only [Act.put, List.setIfInBounds_toArray, List.set_cons_zero, List.set_cons_succ, List.getElem_toArray, List.getElem_cons_zero, List.getElem_cons_succ]
            refine' wpAnyH_take (i := 14) (v := _) rfl (by kernel_rfl) (by kernel_rfl) (by kernel_rfl) (fun _ _ _ h => h) (Or.inl ⟨by rfl, ?ly393⟩) (by assumption) ?lrest393
            case ly393 =>
              intro w hSw
              unfold S14 at hSw
              go_simp
              try with_reducible rfl
            try simp only [Act.put, List.setIfInBounds_toArray, List.set_cons_zero, List.set_cons_succ, List.getElem_toArray, List.getElem_cons_zero, List.getElem_cons_succ]
            refine' wpAnyH_take (i := 15) (v := _) rfl (by kernel_rfl) (by kernel_rfl) (by kernel_rfl) (fun _ _ _ h => h) (Or.inl ⟨by rfl, ?ly394⟩) (by assumption) ?lrest394
            case ly394 =>
              intro w hSw
              unfold S14 at hSw
              go_simp
              try with_reducible rfl
            try simp only [Act.put, List.setIfInBounds_toArray, List.set_cons_zero, List.set_cons_succ, List.getElem_toArray, List.getElem_cons_zero, List.getElem_cons_succ]
            refine' wpAnyH_take (i := 16) (v := _) rfl (by kernel_rfl) (by kernel_rfl) (by kernel_rfl) (fun _ _ _ h => h) (Or.inl ⟨by rfl, ?ly395⟩) (by assumption) ?lrest395
            case ly395 =>
              intro w hSw
              unfold S14 at hSw
              go_simp
              try with_reducible rfl
            try simp only [Act.put, List.setIfInBounds_toArray, List.set_cons_zero, List.set_cons_succ, List.getElem_toArray, List.getElem_cons_zero, List.getElem_cons_succ]
            refine' wpAnyH_take (i := 17) (v := _) rfl (by kernel_rfl) (by kernel_rfl) (by kernel_rfl) (fun _ _ _ h => h) (Or.inl ⟨by rfl, ?ly396⟩) (by assumption) ?lrest396
            case ly396 =>
              intro w hSw
              unfold S14 at hSw
              go_simp
              try with_reducible rfl
            try simp only [Act.put, List.setIfInBounds_toArray, List.set_cons_zero, List.set_cons_succ, List.getElem_toArray, List.getElem_cons_zero, List.getElem_cons_succ]
            refine wpAnyH_ready (rs := [18]) (by kernel_rfl) (by simp) ?_
            refine AllReadyH.cons rfl (fun K hK => ?_) AllReadyH.nil
            go_simp
            refine (HL2.out _).mono ?_
            rintro r9 w9 ⟨rfl, gq⟩
            have hk := hk.step gq
            refine hK.out _ _ hk.S (fun hHeld => ?_)
            clear hK K
            try simp only [Act.put, List.setIfInBounds_toArray, List.set_cons_zero, List.set_cons_succ, List.getElem_toArray, List.getElem_cons_zero, List.getElem_cons_succ]
            refine' wpAnyH_take (i := 19) (v := _) rfl (by kernel_rfl) (by kernel_rfl) (by kernel_rfl) (fun _ _ _ h => h) (Or.inl ⟨by rfl, ?ly398⟩) (by assumption) ?lrest398
            case ly398 =>
              intro w hSw
              unfold S14 at hSw
              go_simp
              try with_reducible rfl
            try simp only [Act.put, List.setIfInBounds_toArray, List.set_cons_zero, List.set_cons_succ, List.getElem_toArray, List.getElem_cons_zero, List.getElem_cons_succ]
            refine' wpAnyH_take (i := 20) (v := _) rfl (by kernel_rfl) (by kernel_rfl) (by kernel_rfl) (fun _ _ _ h => h) (Or.inl ⟨by rfl, ?ly399⟩) (by assumption) ?lrest399
            case ly399 =>
              intro w hSw
              unfold S14 at hSw
              go_simp
              try with_reducible rfl
            try simp only [Act.put, List.setIfInBounds_toArray, List.set_cons_zero, List.set_cons_succ, List.getElem_toArray, List.getElem_cons_zero, List.getElem_cons_succ]
            refine' wpAnyH_take (i := 21) (v := _) rfl (by kernel_rfl) (by kernel_rfl) (by kernel_rfl) (fun _ _ _ h => h) (Or.inl ⟨by rfl, ?ly400⟩) (by assumption) ?lrest400
            case ly400 =>
              intro w hSw
              unfold S14 at hSw
              go_simp
              try with_reducible rfl
            try simp only [Act.put, List.setIfInBounds_toArray, List.set_cons_zero, List.set_cons_succ, List.getElem_toArray, List.getElem_cons_zero, List.getElem_cons_succ]
            refine' wpAnyH_take (i := 22) (v := _) rfl (by kernel_rfl) (by kernel_rfl) (by kernel_rfl) (fun _ _ _ h => h) (Or.inl ⟨by rfl, ?ly401⟩) (by assumption) ?lrest401
            case ly401 =>
              intro w hSw
              unfold S14 at hSw
              go_simp
              try with_reducible rfl
            try simp only [Act.put, List.setIfInBounds_toArray, List.set_cons_zero, List.set_cons_succ, List.getElem_toArray, List.getElem_cons_zero, List.getElem_cons_succ]
            refine' wpAnyH_take (i := 23) (v := _) rfl (by kernel_rfl) (by kernel_rfl) (by kernel_rfl) (fun _ _ _ h => h) (Or.inl ⟨by rfl, ?ly402⟩) (by assumption) ?lrest402
            case ly402 =>
              intro w hSw
              unfold S14 at hSw
              go_simp
              try with_reducible rfl
            try simp only [Act.put, List.setIfInBounds_toArray, List.set_cons_zero, List.set_cons_succ, List.getElem_toArray, List.getElem_cons_zero, List.getElem_cons_succ]
            refine wpAnyH_ready (rs := [24]) (by kernel_rfl) (by simp) ?_
            refine AllReadyH.cons rfl (fun K hK => ?_) AllReadyH.nil
            go_simp
            refine (HWK.out _ hk.bel).mono ?_
            rintro r9 w9 ⟨rfl, gq⟩
            have hk := hk.step gq
            refine hK.out _ _ hk.S (fun hHeld => ?_)
            clear hK K
            try simp only [Act.put, List.setIfInBounds_toArray, List.set_cons_zero, List.set_cons_succ, List.getElem_toArray, List.getElem_cons_zero, List.getElem_cons_succ]
            refine' wpAnyH_take (i := 25) (v := _) rfl (by kernel_rfl) (by kernel_rfl) (by kernel_rfl) (fun _ _ _ h => h) (Or.inl ⟨by rfl, ?ly404⟩) (by assumption) ?lrest404
            case ly404 =>
              intro w hSw
              unfold S14 at hSw
              go_simp
              try with_reducible rfl
            try simp only [Act.put, List.setIfInBounds_toArray, List.set_cons_zero, List.set_cons_succ, List.getElem_toArray, List.getElem_cons_zero, List.getElem_cons_succ]
            refine' wpAnyH_take (i := 26) (v := _) rfl (by kernel_rfl) (by kernel_rfl) (by kernel_rfl) (fun _ _ _ h => h) (Or.inl ⟨by rfl, ?ly405⟩) (by assumption) ?lrest405
            case ly405 =>
              intro w hSw
              unfold S14 at hSw
              go_simp
              try with_reducible rfl
            try simp only [Act.put, List.setIfInBounds_toArray, List.set_cons_zero, List.set_cons_succ, List.getElem_toArray, List.getElem_cons_zero, List.getElem_cons_succ]
            refine wpAnyH_done (by kernel_rfl) ?_ _
            go_wp2_with fail
            go_ret
            exact ⟨rfl, hk.bel⟩
        | true =>
          clear hls
          refine wp_region_held_drew (S := S14 true w.heap.size (w.heap.size + 1) q r ah al bh bl r2 r3 r2 r3 NN) (by kernel_rfl) hk.S (fun hHeld => ?_)
          refine' wpAnyH_take (i := 0) (v := _) rfl (by kernel_rfl) (by kernel_rfl) (by kernel_rfl) (fun _ _ _ h => h) (Or.inl ⟨by rfl, ?ly406⟩) (by assumption) ?lrest406
          case ly406 =>
            intro w hSw
            unfold S14 at hSw
            go_simp
            try with_reducible rfl
          try simp only [Act.put, List.setIfInBounds_toArray, List.set_cons_zero, List.set_cons_succ, List.getElem_toArray, List.getElem_cons_zero, List.getElem_cons_succ]
          refine' wpAnyH_take (i := 1) (v := _) rfl (by kernel_rfl) (by kernel_rfl) (by kernel_rfl) (fun _ _ _ h => h) (Or.inl ⟨by rfl, ?ly407⟩) (by assumption) ?lrest407
          case ly407 =>
            intro w hSw
            unfold S14 at hSw
            go_simp
            try with_reducible rfl
          try simp only [Act.put, List.setIfInBounds_toArray, List.set_cons_zero, List.set_cons_succ, List.getElem_toArray, List.getElem_cons_zero, List.getElem_cons_succ]
          refine' wpAnyH_take (i := 3) (v := _) rfl (by kernel_rfl) (by kernel_rfl) (by kernel_rfl) (fun _ _ _ h => h) (Or.inl ⟨by rfl, ?ly408⟩) (by assumption) ?lrest408
          case ly408 =>
            intro w hSw
            unfold S14 at hSw
            go_simp
            try with_reducible rfl
          try simp only [Act.put, List.setIfInBounds_toArray, List.set_cons_zero, List.set_cons_succ, List.getElem_toArray, List.getElem_cons_zero, List.getElem_cons_succ]
          refine' wpAnyH_take (i := 4) (v := _) rfl (by kernel_rfl) (by kernel_rfl) (by kernel_rfl) (fun _ _ _ h => h) (Or.inl ⟨by rfl, ?ly409⟩) (by assumption) ?lrest409
          case ly409 =>
            intro w hSw
            unfold S14 at hSw
            go_simp
            try with_reducible rfl
          try simp only [Act.put, List.setIfInBounds_toArray, List.set_cons_zero, List.set_cons_succ, List.getElem_toArray, List.getElem_cons_zero, List.getElem_cons_succ]
          refine' wpAnyH_take (i := 5) (v := _) rfl (by kernel_rfl) (by kernel_rfl) (by kernel_rfl) (fun _ _ _ h => h) (Or.inl ⟨by rfl, ?ly410⟩) (by assumption) ?lrest410
          case ly410 =>
            intro w hSw
            unfold S14 at hSw
            go_simp
            try with_reducible rfl
          try simp only [Act.put, List.setIfInBounds_toArray, List.set_cons_zero, List.set_cons_succ, List.getElem_toArray, List.getElem_cons_zero, List.getElem_cons_succ]
          refine wpAnyH_ready (rs := [2]) (by kernel_rfl) (by simp) ?_
          refine AllReadyH.cons rfl (fun K hK => ?_) AllReadyH.nil
          go_simp
          refine (HG3.out _).mono ?_
          rintro r9 w9 ⟨rfl, gq⟩
          have hk := hk.step gq
          refine hK.out _ _ hk.S (fun hHeld => ?_)
          clear hK K
          try simp only [Act.put, List.setIfInBounds_toArray, List.set_cons_zero, List.set_cons_succ, List.getElem_toArray, List.getElem_cons_zero, List.getElem_cons_succ]
          refine' wpAnyH_take (i := 6) (v := _) rfl (by kernel_rfl) (by kernel_rfl) (by kernel_rfl) (fun _ _ _ h => h) (Or.inl ⟨by rfl, ?ly412⟩) (by assumption) ?lrest412
          case ly412 =>
            intro w hSw
            unfold S14 at hSw
            go_simp
            try with_reducible rfl
          try simp only [Act.put, List.setIfInBounds_toArray, List.set_cons_zero, List.set_cons_succ, List.getElem_toArray, List.getElem_cons_zero, List.getElem_cons_succ]
          refine' wpAnyH_take (i := 7) (v := _) rfl (by kernel_rfl) (by kernel_rfl) (by kernel_rfl) (fun _ _ _ h => h) (Or.inl ⟨by rfl, ?ly413⟩) (by assumption) ?lrest413
          case ly413 =>
            intro w hSw
            unfold S14 at hSw
            go_simp
            try with_reducible rfl
          try simp only [Act.put, List.setIfInBounds_toArray, List.set_cons_zero, List.set_cons_succ, List.getElem_toArray, List.getElem_cons_zero, List.getElem_cons_succ]
          refine' wpAnyH_take (i := 8) (v := _) rfl (by kernel_rfl) (by kernel_rfl) (by kernel_rfl) (fun _ _ _ h => h) (Or.inl ⟨by rfl, ?ly414⟩) (by assumption) ?lrest414
          case ly414 =>
            intro w hSw
            unfold S14 at hSw
            go_simp
            try with_reducible rfl
          try simp only [Act.put, List.setIfInBounds_toArray, List.set_cons_zero, List.set_cons_succ, List.getElem_toArray, List.getElem_cons_zero, List.getElem_cons_succ]
          refine' wpAnyH_take (i := 9) (v := _) rfl (by kernel_rfl) (by kernel_rfl) (by kernel_rfl) (fun _ _ _ h => h) (Or.inl ⟨by rfl, ?ly415⟩) (by assumption) ?lrest415
          case ly415 =>
            intro w hSw
            unfold S14 at hSw
            go_simp
            try with_reducible rfl
          try simp only [Act.put, List.setIfInBounds_toArray, List.set_cons_zero, List.set_cons_succ, List.getElem_toArray, List.getElem_cons_zero, List.getElem_cons_succ]
          refine' wpAnyH_take (i := 10) (v := _) rfl (by kernel_rfl) (by kernel_rfl) (by kernel_rfl) (fun _ _ _ h => h) (Or.inl ⟨by rfl, ?ly416⟩) (by assumption) ?lrest416
          case ly416 =>
            intro w hSw
            unfold S14 at hSw
            go_simp
            try with_reducible rfl
          try simp only [Act.put, List.setIfInBounds_toArray, List.set_cons_zero, List.set_cons_succ, List.getElem_toArray, List.getElem_cons_zero, List.getElem_cons_succ]
          refine' wpAnyH_take (i := 11) (v := _) rfl (by kernel_rfl) (by kernel_rfl) (by kernel_rfl) (fun _ _ _ h => h) (Or.inl ⟨by rfl, ?ly417⟩) (by assumption) ?lrest417
          case ly417 =>
            intro w hSw
            unfold S14 at hSw
            go_simp
            try with_reducible rfl
          try simp only [Act.put, List.setIfInBounds_toArray, List.set_cons_zero, List.set_cons_succ, List.getElem_toArray, List.getElem_cons_zero, List.getElem_cons_succ]
          refine' wpAnyH_take (i := 12) (v := _) rfl (by kernel_rfl) (by kernel_rfl) (by kernel_rfl) (fun _ _ _ h => h) (Or.inl ⟨by rfl, ?ly418⟩) (by assumption) ?lrest418
          case ly418 =>
            intro w hSw
            unfold S14 at hSw
            go_simp
            try with_reducible rfl
          try simp only [Act.put, List.setIfInBounds_toArray, List.set_cons_zero, List.set_cons_succ, List.getElem_toArray, List.getElem_cons_zero, List.getElem_cons_succ]
          refine wpAnyH_ready (rs := [13]) (by kernel_rfl) (by simp) ?_
          refine AllReadyH.cons rfl (fun K hK => ?_) AllReadyH.nil
          go_simp
          refine (HL1.out _).mono ?_
          rintro r9 w9 ⟨rfl, gq⟩
          have hk := hk.step gq
          refine hK.out _ _ hk.S (fun hHeld => ?_)
          clear hK K
          try simp only [Act.put, List.setIfInBounds_toArray, List.set_cons_zero, List.set_cons_succ, List.getElem_toArray, List.getElem_cons_zero, List.getElem_cons_succ]
          refine' wpAnyH_take (i := 14) (v := _) rfl (by kernel_rfl) (by kernel_rfl) (by kernel_rfl) (fun _ _ _ h => h) (Or.inl ⟨by rfl, ?ly420⟩) (by assumption) ?lrest420
          case ly420 =>
            intro w hSw
            unfold S14 at hSw
            go_simp
            try with_reducible rfl
          try simp only [Act.put, List.setIfInBounds_toArray, List.set_cons_zero, List.set_cons_succ, List.getElem_toArray, List.getElem_cons_zero, List.getElem_cons_succ]
          refine' wpAnyH_take (i := 15) (v := _) rfl (by kernel_rfl) (by kernel_rfl) (by kernel_rfl) (fun _ _ _ h => h) (Or.inl ⟨by rfl, ?ly421⟩) (by assumption) ?lrest421
          case ly421 =>
            intro w hSw
            unfold S14 at hSw
            go_simp
            try with_reducible rfl
          try simp only [Act.put, List.setIfInBounds_toArray, List.set_cons_zero, List.set_cons_succ, List.getElem_toArray, List.getElem_cons_zero, List.getElem_cons_succ]
          refine' wpAnyH_take (i := 16) (v := undef) rfl (by kernel_rfl) (by kernel_rfl) (by kernel_rfl) (fun _ _ _ h => h) (Or.inr ⟨by rfl, rfl⟩) (by assumption) ?lrest422
          try simp only [Act.put, List.setIfInBounds_toArray, List.set_cons_zero, List.set_cons_succ, List.getElem_toArray, List.getElem_cons_zero, List.getElem_cons_succ]
          refine' wpAnyH_take (i := 17) (v := undef) rfl (by kernel_rfl) (by kernel_rfl) (by kernel_rfl) (fun _ _ _ h => h) (Or.inr ⟨by rfl, rfl⟩) (by assumption) ?lrest423
          try simp only [Act.put, List.setIfInBounds_toArray, List.set_cons_zero, List.set_cons_succ, List.getElem_toArray, List.getElem_cons_zero, List.getElem_cons_succ]
          refine' wpAnyH_take (i := 18) (v := undef) rfl (by kernel_rfl) (by kernel_rfl) (by kernel_rfl) (fun _ _ _ h => h) (Or.inr ⟨by rfl, rfl⟩) (by assumption) ?lrest424
          try simp only [Act.put, List.setIfInBounds_toArray, List.set_cons_zero, List.set_cons_succ, List.getElem_toArray, List.getElem_cons_zero, List.getElem_cons_succ]
          refine' wpAnyH_take (i := 19) (v := undef) rfl (by kernel_rfl) (by kernel_rfl) (by kernel_rfl) (fun _ _ _ h => h) (Or.inr ⟨by rfl, rfl⟩) (by assumption) ?lrest425
          try simp only [Act.put, List.setIfInBounds_toArray, List.set_cons_zero, List.set_cons_succ, List.getElem_toArray, List.getElem_cons_zero, List.getElem_cons_succ]
          refine' wpAnyH_take (i := 20) (v := _) rfl (by kernel_rfl) (by kernel_rfl) (by kernel_rfl) (fun _ _ _ h => h) (Or.inl ⟨by rfl, ?ly426⟩) (by assumption) ?lrest426
          case ly426 =>
            intro w hSw
            unfold S14 at hSw
            go_simp
            try with_reducible rfl
          try simp only [Act.put, List.setIfInBounds_toArray, List.set_cons_zero, List.set_cons_succ, List.getElem_toArray, List.getElem_cons_zero, List.getElem_cons_succ]
          refine' wpAnyH_take (i := 21) (v := _) rfl (by kernel_rfl) (by kernel_rfl) (by kernel_rfl) (fun _ _ _ h => h) (Or.inl ⟨by rfl, ?ly427⟩) (by assumption) ?lrest427
          case ly427 =>
            intro w hSw
            unfold S14 at hSw
            go_simp
            try with_reducible rfl
          try simp only [Act.put, List.setIfInBounds_toArray, List.set_cons_zero, List.set_cons_succ, List.getElem_toArray, List.getElem_cons_zero, List.getElem_cons_succ]
          refine' wpAnyH_take (i := 22) (v := _) rfl (by kernel_rfl) (by kernel_rfl) (by kernel_rfl) (fun _ _ _ h => h) (Or.inl ⟨by rfl, ?ly428⟩) (by assumption) ?lrest428
          case ly428 =>
            intro w hSw
            unfold S14 at hSw
            go_simp
            try with_reducible rfl
          try simp only [Act.put, List.setIfInBounds_toArray, List.set_cons_zero, List.set_cons_succ, List.getElem_toArray, List.getElem_cons_zero, List.getElem_cons_succ]
          refine' wpAnyH_take (i := 23) (v := _) rfl (by kernel_rfl) (by kernel_rfl) (by kernel_rfl) (fun _ _ _ h => h) (Or.inl ⟨by rfl, ?ly429⟩) (by assumption) ?lrest429
          case ly429 =>
            intro w hSw
            unfold S14 at hSw
            go_simp
            try with_reducible rfl
          try simp only [Act.put, List.setIfInBounds_toArray, List.set_cons_zero, List.set_cons_succ, List.getElem_toArray, List.getElem_cons_zero, List.getElem_cons_succ]
          refine wpAnyH_ready (rs := [24]) (by kernel_rfl) (by simp) ?_
          refine AllReadyH.cons rfl (fun K hK => ?_) AllReadyH.nil
          go_simp
          refine (HWK.out _ hk.bel).mono ?_
          rintro r9 w9 ⟨rfl, gq⟩
          have hk := hk.step gq
          refine hK.out _ _ hk.S (fun hHeld => ?_)
          clear hK K
          try simp only [Act.put, List.setIfInBounds_toArray, List.set_cons_zero, List.set_cons_succ, List.getElem_toArray, List.getElem_cons_zero, List.getElem_cons_succ]
          refine' wpAnyH_take (i := 25) (v := _) rfl (by kernel_rfl) (by kernel_rfl) (by kernel_rfl) (fun _ _ _ h => h) (Or.inl ⟨by rfl, ?ly431⟩) (by assumption) ?lrest431
          case ly431 =>
            intro w hSw
            unfold S14 at hSw
            go_simp
            try with_reducible rfl
          try simp only [Act.put, List.setIfInBounds_toArray, List.set_cons_zero, List.set_cons_succ, List.getElem_toArray, List.getElem_cons_zero, List.getElem_cons_succ]
          refine' wpAnyH_take (i := 26) (v := _) rfl (by kernel_rfl) (by kernel_rfl) (by kernel_rfl) (fun _ _ _ h => h) (Or.inl ⟨by rfl, ?ly432⟩) (by assumption) ?lrest432
          case ly432 =>
            intro w hSw
            unfold S14 at hSw
            go_simp
            try with_reducible rfl
          try simp only [Act.put, List.setIfInBounds_toArray, List.set_cons_zero, List.set_cons_succ, List.getElem_toArray, List.getElem_cons_zero, List.getElem_cons_succ]
          refine wpAnyH_done (by kernel_rfl) ?_ _
          go_wp2_with fail
          go_ret
          exact ⟨rfl, hk.bel⟩
      · subst dj
        have z2 : ((al : Int) == (bl : Int)) = false := by simp; omega
        clear dk
        cases L1 with
        | false =>
          cases L2 with
          | false => exact absurd hls (by decide)
          | true =>
            clear hls
            refine wp_region_held_drew (S := S14 true w.heap.size (w.heap.size + 1) q r ah al ah bl r2 r3 r2 r3 NN) (by kernel_rfl) hk.S (fun hHeld => ?_)
            refine' wpAnyH_take (i := 0) (v := _) rfl (by kernel_rfl) (by kernel_rfl) (by kernel_rfl) (fun _ _ _ h => h) (Or.inl ⟨by rfl, ?ly433⟩) (by assumption) ?lrest433
            case ly433 =>
              intro w hSw
              unfold S14 at hSw
              go_simp
              try with_reducible rfl
            try simp only [Act.put, List.setIfInBounds_toArray, List.set_cons_zero, List.set_cons_succ, List.getElem_toArray, List.getElem_cons_zero, List.getElem_cons_succ]
            refine' wpAnyH_take (i := 1) (v := _) rfl (by kernel_rfl) (by kernel_rfl) (by kernel_rfl) (fun _ _ _ h => h) (Or.inl ⟨by rfl, ?ly434⟩) (by assumption) ?lrest434
            case ly434 =>
              intro w hSw
              unfold S14 at hSw
              go_simp
              try with_reducible rfl
            try simp only [Act.put, List.setIfInBounds_toArray, List.set_cons_zero, List.set_cons_succ, List.getElem_toArray, List.getElem_cons_zero, List.getElem_cons_succ]
            refine' wpAnyH_take (i := 3) (v := _) rfl (by kernel_rfl) (by kernel_rfl) (by kernel_rfl) (fun _ _ _ h => h) (Or.inl ⟨by rfl, ?ly435⟩) (by assumption) ?lrest435
            case ly435 =>
              intro w hSw
              unfold S14 at hSw
              go_simp
              try with_reducible rfl
            try simp only [Act.put, List.setIfInBounds_toArray, List.set_cons_zero, List.set_cons_succ, List.getElem_toArray, List.getElem_cons_zero, List.getElem_cons_succ]
            refine' wpAnyH_take (i := 4) (v := _) rfl (by kernel_rfl) (by kernel_rfl) (by kernel_rfl) (fun _ _ _ h => h) (Or.inl ⟨by rfl, ?ly436⟩) (by assumption) ?lrest436
            case ly436 =>
              intro w hSw
              unfold S14 at hSw
              go_simp
              try with_reducible rfl
            try simp only [Act.put, List.setIfInBounds_toArray, List.set_cons_zero, List.set_cons_succ, List.getElem_toArray, List.getElem_cons_zero, List.getElem_cons_succ]
            refine' wpAnyH_take (i := 5) (v := _) rfl (by kernel_rfl) (by kernel_rfl) (by kernel_rfl) (fun _ _ _ h => h) (Or.inl ⟨by rfl, ?ly437⟩) (by assumption) ?lrest437
            case ly437 =>
              intro w hSw
              unfold S14 at hSw
              go_simp
              try with_reducible rfl
            try simp only [Act.put, List.setIfInBounds_toArray, List.set_cons_zero, List.set_cons_succ, List.getElem_toArray, List.getElem_cons_zero, List.getElem_cons_succ]
            refine wpAnyH_ready (rs := [2]) (by kernel_rfl) (by simp) ?_
            refine AllReadyH.cons rfl (fun K hK => ?_) AllReadyH.nil
            go_simp
            refine (HG3.out _).mono ?_
            rintro r9 w9 ⟨rfl, gq⟩
            have hk := hk.step gq
            refine hK.out _ _ hk.S (fun hHeld => ?_)
            clear hK K
            try simp only [Act.put, List.setIfInBounds_toArray, List.set_cons_zero, List.set_cons_succ, List.getElem_toArray, List.getElem_cons_zero, List.getElem_cons_succ]
            refine' wpAnyH_take (i := 6) (v := _) rfl (by kernel_rfl) (by kernel_rfl) (by kernel_rfl) (fun _ _ _ h => h) (Or.inl ⟨by rfl, ?ly439⟩) (by assumption) ?lrest439
            case ly439 =>
              intro w hSw
              unfold S14 at hSw
              go_simp
              try with_reducible rfl
            try simp only [Act.put, List.setIfInBounds_toArray, List.set_cons_zero, List.set_cons_succ, List.getElem_toArray, List.getElem_cons_zero, List.getElem_cons_succ]
            refine' wpAnyH_take (i := 7) (v := _) rfl (by kernel_rfl) (by kernel_rfl) (by kernel_rfl) (fun _ _ _ h => h) (Or.inl ⟨by rfl, ?ly440⟩) (by assumption) ?lrest440
            case ly440 =>
              intro w hSw
              unfold S14 at hSw
              go_simp
              try with_reducible rfl
            try simp only [Act.put, List.setIfInBounds_toArray, List.set_cons_zero, List.set_cons_succ, List.getElem_toArray, List.getElem_cons_zero, List.getElem_cons_succ]
            refine' wpAnyH_take (i := 8) (v := _) rfl (by kernel_rfl) (by kernel_rfl) (by kernel_rfl) (fun _ _ _ h => h) (Or.inl ⟨by rfl, ?ly441⟩) (by assumption) ?lrest441
            case ly441 =>
              intro w hSw
              unfold S14 at hSw
              go_simp
              try with_reducible rfl
            try simp only [Act.put, List.setIfInBounds_toArray, List.set_cons_zero, List.set_cons_succ, List.getElem_toArray, List.getElem_cons_zero, List.getElem_cons_succ]
            refine' wpAnyH_take (i := 9) (v := _) rfl (by kernel_rfl) (by kernel_rfl) (by kernel_rfl) (fun _ _ _ h => h) (Or.inl ⟨by rfl, ?ly442⟩) (by assumption) ?lrest442
            case ly442 =>
              intro w hSw
              unfold S14 at hSw
              go_simp
              try with_reducible rfl
            try simp only [Act.put, List.setIfInBounds_toArray, List.set_cons_zero, List.set_cons_succ, List.getElem_toArray, List.getElem_cons_zero, List.getElem_cons_succ]
            refine' wpAnyH_take (i := 10) (v := _) rfl (by kernel_rfl) (by kernel_rfl) (by kernel_rfl) (fun _ _ _ h => h) (Or.inl ⟨by rfl, ?ly443⟩) (by assumption) ?lrest443
            case ly443 =>
              intro w hSw
              unfold S14 at hSw
              go_simp
              try with_reducible rfl
            try simp only [Act.put, List.setIfInBounds_toArray, List.set_cons_zero, List.set_cons_succ, List.getElem_toArray, List.getElem_cons_zero, List.getElem_cons_succ]
            refine' wpAnyH_take (i := 11) (v := _) rfl (by kernel_rfl) (by kernel_rfl) (by kernel_rfl) (fun _ _ _ h => h) (Or.inl ⟨by rfl, ?ly444⟩) (by assumption) ?lrest444
            case ly444 =>
              intro w hSw
              unfold S14 at hSw
              go_simp
              try with_reducible rfl
            try simp only [Act.put, List.setIfInBounds_toArray, List.set_cons_zero, List.set_cons_succ, List.getElem_toArray, List.getElem_cons_zero, List.getElem_cons_succ]
            refine' wpAnyH_take (i := 12) (v := _) rfl (by kernel_rfl) (by kernel_rfl) (by kernel_rfl) (fun _ _ _ h => h) (Or.inl ⟨by rfl, ?ly445⟩) (by assumption) ?lrest445
            case ly445 =>
              intro w hSw
              unfold S14 at hSw
              go_simp
              try with_reducible rfl
            try simp only [Act.put, List.setIfInBounds_toArray, List.set_cons_zero, List.set_cons_succ, List.getElem_toArray, List.getElem_cons_zero, List.getElem_cons_succ]
            refine wpAnyH_ready (rs := [13]) (by kernel_rfl) (by simp) ?_
            refine AllReadyH.cons rfl (fun K hK => ?_) AllReadyH.nil
            go_simp
            refine (HL1.out _).mono ?_
            rintro r9 w9 ⟨rfl, gq⟩
            have hk := hk.step gq
            refine hK.out _ _ hk.S (fun hHeld => ?_)
            clear hK K
            try simp only [Act.put, List.setIfInBounds_toArray, List.set_cons_zero, List.set_cons_succ, List.getElem_toArray, List.getElem_cons_zero, List.getElem_cons_succ]
            refine' wpAnyH_take (i := 14) (v := _) rfl (by kernel_rfl) (by kernel_rfl) (by kernel_rfl) (fun _ _ _ h => h) (Or.inl ⟨by rfl, ?ly447⟩) (by assumption) ?lrest447
            case ly447 =>
              intro w hSw
              unfold S14 at hSw
              go_simp
              try with_reducible rfl
            try simp only [Act.put, List.setIfInBounds_toArray, List.set_cons_zero, List.set_cons_succ, List.getElem_toArray, List.getElem_cons_zero, List.getElem_cons_succ]
            refine' wpAnyH_take (i := 15) (v := _) rfl (by kernel_rfl) (by kernel_rfl) (by kernel_rfl) (fun _ _ _ h => h) (Or.inl ⟨by rfl, ?ly448⟩) (by assumption) ?lrest448
            case ly448 =>
              intro w hSw
              unfold S14 at hSw
              go_simp
              try with_reducible rfl
            try simp only [Act.put, List.setIfInBounds_toArray, List.set_cons_zero, List.set_cons_succ, List.getElem_toArray, List.getElem_cons_zero, List.getElem_cons_succ]
            refine' wpAnyH_take (i := 16) (v := _) rfl (by kernel_rfl) (by kernel_rfl) (by kernel_rfl) (fun _ _ _ h => h) (Or.inl ⟨by rfl, ?ly449⟩) (by assumption) ?lrest449
            case ly449 =>
              intro w hSw
              unfold S14 at hSw
              go_simp
              try with_reducible rfl
            try simp only [Act.put, List.setIfInBounds_toArray, List.set_cons_zero, List.set_cons_succ, List.getElem_toArray, List.getElem_cons_zero, List.getElem_cons_succ]
            refine' wpAnyH_take (i := 17) (v := _) rfl (by kernel_rfl) (by kernel_rfl) (by kernel_rfl) (fun _ _ _ h => h) (Or.inl ⟨by rfl, ?ly450⟩) (by assumption) ?lrest450
            case ly450 =>
              intro w hSw
              unfold S14 at hSw
              go_simp
              try with_reducible rfl
            try simp only [Act.put, List.setIfInBounds_toArray, List.set_cons_zero, List.set_cons_succ, List.getElem_toArray, List.getElem_cons_zero, List.getElem_cons_succ]
            refine wpAnyH_ready (rs := [18]) (by kernel_rfl) (by simp) ?_
            refine AllReadyH.cons rfl (fun K hK => ?_) AllReadyH.nil
            go_simp
            refine (HL2.out _).mono ?_
            rintro r9 w9 ⟨rfl, gq⟩
            have hk := hk.step gq
            refine hK.out _ _ hk.S (fun hHeld => ?_)
            clear hK K
            try simp only [Act.put, List.setIfInBounds_toArray, List.set_cons_zero, List.set_cons_succ, List.getElem_toArray, List.getElem_cons_zero, List.getElem_cons_succ]
            refine' wpAnyH_take (i := 19) (v := _) rfl (by kernel_rfl) (by kernel_rfl) (by kernel_rfl) (fun _ _ _ h => h) (Or.inl ⟨by rfl, ?ly452⟩) (by assumption) ?lrest452
            case ly452 =>
              intro w hSw
              unfold S14 at hSw
              go_simp
              try with_reducible rfl
            try simp only [Act.put, List.setIfInBounds_toArray, List.set_cons_zero, List.set_cons_succ, List.getElem_toArray, List.getElem_cons_zero, List.getElem_cons_succ]
            refine' wpAnyH_take (i := 20) (v := _) rfl (by kernel_rfl) (by kernel_rfl) (by kernel_rfl) (fun _ _ _ h => h) (Or.inl ⟨by rfl, ?ly453⟩) (by assumption) ?lrest453
            case ly453 =>
              intro w hSw
              unfold S14 at hSw
              go_simp
              try with_reducible rfl
            try simp only [Act.put, List.setIfInBounds_toArray, List.set_cons_zero, List.set_cons_succ, List.getElem_toArray, List.getElem_cons_zero, List.getElem_cons_succ]
            refine' wpAnyH_take (i := 21) (v := _) rfl (by kernel_rfl) (by kernel_rfl) (by kernel_rfl) (fun _ _ _ h => h) (Or.inl ⟨by rfl, ?ly454⟩) (by assumption) ?lrest454
            case ly454 =>
              intro w hSw
              unfold S14 at hSw
              go_simp
              try with_reducible rfl
            try simp only [Act.put, List.setIfInBounds_toArray, List.set_cons_zero, List.set_cons_succ, List.getElem_toArray, List.getElem_cons_zero, List.getElem_cons_succ]
            refine' wpAnyH_take (i := 22) (v := _) rfl (by kernel_rfl) (by kernel_rfl) (by kernel_rfl) (fun _ _ _ h => h) (Or.inl ⟨by rfl, ?ly455⟩) (by assumption) ?lrest455
            case ly455 =>
              intro w hSw
              unfold S14 at hSw
              go_simp
              try with_reducible rfl
            try simp only [Act.put, List.setIfInBounds_toArray, List.set_cons_zero, List.set_cons_succ, List.getElem_toArray, List.getElem_cons_zero, List.getElem_cons_succ]
            refine' wpAnyH_take (i := 23) (v := _) rfl (by kernel_rfl) (by kernel_rfl) (by kernel_rfl) (fun _ _ _ h => h) (Or.inl ⟨by rfl, ?ly456⟩) (by assumption) ?lrest456
            case ly456 =>
              intro w hSw
              unfold S14 at hSw
              go_simp
              try with_reducible rfl
            try simp only [Act.put, List.setIfInBounds_toArray, List.set_cons_zero, List.set_cons_succ, List.getElem_toArray, List.getElem_cons_zero, List.getElem_cons_succ]
            refine wpAnyH_ready (rs := [24]) (by kernel_rfl) (by simp) ?_
            refine AllReadyH.cons rfl (fun K hK => ?_) AllReadyH.nil
            go_simp
            refine (HWK.out _ hk.bel).mono ?_
            rintro r9 w9 ⟨rfl, gq⟩
            have hk := hk.step gq
            refine hK.out _ _ hk.S (fun hHeld => ?_)
            clear hK K
            try simp only [Act.put, List.setIfInBounds_toArray, List.set_cons_zero, List.set_cons_succ, List.getElem_toArray, List.getElem_cons_zero, List.getElem_cons_succ]
            refine' wpAnyH_take (i := 25) (v := _) rfl (by kernel_rfl) (by kernel_rfl) (by kernel_rfl) (fun _ _ _ h => h) (Or.inl ⟨by rfl, ?ly458⟩) (by assumption) ?lrest458
            case ly458 =>
              intro w hSw
              unfold S14 at hSw
              go_simp
              try with_reducible rfl
            try simp only [Act.put, List.setIfInBounds_toArray, List.set_cons_zero, List.set_cons_succ, List.getElem_toArray, List.getElem_cons_zero, List.getElem_cons_succ]
            refine' wpAnyH_take (i := 26) (v := _) rfl (by kernel_rfl) (by kernel_rfl) (by kernel_rfl) (fun _ _ _ h => h) (Or.inl ⟨by rfl, ?ly459⟩) (by assumption) ?lrest459
            case ly459 =>
              intro w hSw
              unfold S14 at hSw
              go_simp
              try with_reducible rfl
            try simp only [Act.put, List.setIfInBounds_toArray, List.set_cons_zero, List.set_cons_succ, List.getElem_toArray, List.getElem_cons_zero, List.getElem_cons_succ]
            refine wpAnyH_done (by kernel_rfl) ?_ _
            go_wp2_with fail
            go_ret
            exact ⟨rfl, hk.bel⟩
        | true =>
          clear hls
          refine wp_region_held_drew (S := S14 true w.heap.size (w.heap.size + 1) q r ah al ah bl r2 r3 r2 r3 NN) (by kernel_rfl) hk.S (fun hHeld => ?_)
          refine' wpAnyH_take (i := 0) (v := _) rfl (by kernel_rfl) (by kernel_rfl) (by kernel_rfl) (fun _ _ _ h => h) (Or.inl ⟨by rfl, ?ly460⟩) (by assumption) ?lrest460
          case ly460 =>
            intro w hSw
            unfold S14 at hSw
            go_simp
            try with_reducible rfl
          try simp only [Act.put, List.setIfInBounds_toArray, List.set_cons_zero, List.set_cons_succ, List.getElem_toArray, List.getElem_cons_zero, List.getElem_cons_succ]
          refine' wpAnyH_take (i := 1) (v := _) rfl (by kernel_rfl) (by kernel_rfl) (by kernel_rfl) (fun _ _ _ h => h) (Or.inl ⟨by rfl, ?ly461⟩) (by assumption) ?lrest461
          case ly461 =>
            intro w hSw
            unfold S14 at hSw
            go_simp
            try with_reducible rfl
          try simp only [Act.put, List.setIfInBounds_toArray, List.set_cons_zero, List.set_cons_succ, List.getElem_toArray, List.getElem_cons_zero, List.getElem_cons_succ]
          refine' wpAnyH_take (i := 3) (v := _) rfl (by kernel_rfl) (by kernel_rfl) (by kernel_rfl) (fun _ _ _ h => h) (Or.inl ⟨by rfl, ?ly462⟩) (by assumption) ?lrest462
          case ly462 =>
            intro w hSw
            unfold S14 at hSw
            go_simp
            try with_reducible rfl
          try simp only [Act.put, List.setIfInBounds_toArray, List.set_cons_zero, List.set_cons_succ, List.getElem_toArray, List.getElem_cons_zero, List.getElem_cons_succ]
          refine' wpAnyH_take (i := 4) (v := _) rfl (by kernel_rfl) (by kernel_rfl) (by kernel_rfl) (fun _ _ _ h => h) (Or.inl ⟨by rfl, ?ly463⟩) (by assumption) ?lrest463
          case ly463 =>
            intro w hSw
            unfold S14 at hSw
            go_simp
            try with_reducible rfl
          try simp only [Act.put, List.setIfInBounds_toArray, List.set_cons_zero, List.set_cons_succ, List.getElem_toArray, List.getElem_cons_zero, List.getElem_cons_succ]
          refine' wpAnyH_take (i := 5) (v := _) rfl (by kernel_rfl) (by kernel_rfl) (by kernel_rfl) (fun _ _ _ h => h) (Or.inl ⟨by rfl, ?ly464⟩) (by assumption) ?lrest464
          case ly464 =>
            intro w hSw
            unfold S14 at hSw
            go_simp
            try with_reducible rfl
          try simp only [Act.put, List.setIfInBounds_toArray, List.set_cons_zero, List.set_cons_succ, List.getElem_toArray, List.getElem_cons_zero, List.getElem_cons_succ]
          refine wpAnyH_ready (rs := [2]) (by kernel_rfl) (by simp) ?_
          refine AllReadyH.cons rfl (fun K hK => ?_) AllReadyH.nil
          go_simp
          refine (HG3.out _).mono ?_
          rintro r9 w9 ⟨rfl, gq⟩
          have hk := hk.step gq
          refine hK.out _ _ hk.S (fun hHeld => ?_)
          clear hK K
          try simp only [Act.put, List.setIfInBounds_toArray, List.set_cons_zero, List.set_cons_succ, List.getElem_toArray, List.getElem_cons_zero, List.getElem_cons_succ]
          refine' wpAnyH_take (i := 6) (v := _) rfl (by kernel_rfl) (by kernel_rfl) (by kernel_rfl) (fun _ _ _ h => h) (Or.inl ⟨by rfl, ?ly466⟩) (by assumption) ?lrest466
          case ly466 =>
            intro w hSw
            unfold S14 at hSw
            go_simp
            try with_reducible rfl
          try simp only [Act.put, List.setIfInBounds_toArray, List.set_cons_zero, List.set_cons_succ, List.getElem_toArray, List.getElem_cons_zero, List.getElem_cons_succ]
          refine' wpAnyH_take (i := 7) (v := _) rfl (by kernel_rfl) (by kernel_rfl) (by kernel_rfl) (fun _ _ _ h => h) (Or.inl ⟨by rfl, ?ly467⟩) (by assumption) ?lrest467
          case ly467 =>
            intro w hSw
            unfold S14 at hSw
            go_simp
            try with_reducible rfl
          try simp only [Act.put, List.setIfInBounds_toArray, List.set_cons_zero, List.set_cons_succ, List.getElem_toArray, List.getElem_cons_zero, List.getElem_cons_succ]
          refine' wpAnyH_take (i := 8) (v := _) rfl (by kernel_rfl) (by kernel_rfl) (by kernel_rfl) (fun _ _ _ h => h) (Or.inl ⟨by rfl, ?ly468⟩) (by assumption) ?lrest468
          case ly468 =>
            intro w hSw
            unfold S14 at hSw
            go_simp
            try with_reducible rfl
          try simp only [Act.put, List.setIfInBounds_toArray, List.set_cons_zero, List.set_cons_succ, List.getElem_toArray, List.getElem_cons_zero, List.getElem_cons_succ]
          refine' wpAnyH_take (i := 9) (v := _) rfl (by kernel_rfl) (by kernel_rfl) (by kernel_rfl) (fun _ _ _ h => h) (Or.inl ⟨by rfl, ?ly469⟩) (by assumption) ?lrest469
          case ly469 =>
            intro w hSw
            unfold S14 at hSw
            go_simp
            try with_reducible rfl
          try simp only [Act.put, List.setIfInBounds_toArray, List.set_cons_zero, List.set_cons_succ, List.getElem_toArray, List.getElem_cons_zero, List.getElem_cons_succ]
          refine' wpAnyH_take (i := 10) (v := _) rfl (by kernel_rfl) (by kernel_rfl) (by kernel_rfl) (fun _ _ _ h => h) (Or.inl ⟨by rfl, ?ly470⟩) (by assumption) ?lrest470
          case ly470 =>
            intro w hSw
            unfold S14 at hSw
            go_simp
            try with_reducible rfl
          try simp only [Act.put, List.setIfInBounds_toArray, List.set_cons_zero, List.set_cons_succ, List.getElem_toArray, List.getElem_cons_zero, List.getElem_cons_succ]
          refine' wpAnyH_take (i := 11) (v := _) rfl (by kernel_rfl) (by kernel_rfl) (by kernel_rfl) (fun _ _ _ h => h) (Or.inl ⟨by rfl, ?ly471⟩) (by assumption) ?lrest471
          case ly471 =>
            intro w hSw
            unfold S14 at hSw
            go_simp
            try with_reducible rfl
          try simp only [Act.put, List.setIfInBounds_toArray, List.set_cons_zero, List.set_cons_succ, List.getElem_toArray, List.getElem_cons_zero, List.getElem_cons_succ]
          refine' wpAnyH_take (i := 12) (v := _) rfl (by kernel_rfl) (by kernel_rfl) (by kernel_rfl) (fun _ _ _ h => h) (Or.inl ⟨by rfl, ?ly472⟩) (by assumption) ?lrest472
          case ly472 =>
            intro w hSw
            unfold S14 at hSw
            go_simp
            try with_reducible rfl
          try simp only [Act.put, List.setIfInBounds_toArray, List.set_cons_zero, List.set_cons_succ, List.getElem_toArray, List.getElem_cons_zero, List.getElem_cons_succ]
          refine wpAnyH_ready (rs := [13]) (by kernel_rfl) (by simp) ?_
          refine AllReadyH.cons rfl (fun K hK => ?_) AllReadyH.nil
          go_simp
          refine (HL1.out _).mono ?_
          rintro r9 w9 ⟨rfl, gq⟩
          have hk := hk.step gq
          refine hK.out _ _ hk.S (fun hHeld => ?_)
          clear hK K
          try simp only [Act.put, List.setIfInBounds_toArray, List.set_cons_zero, List.set_cons_succ, List.getElem_toArray, List.getElem_cons_zero, List.getElem_cons_succ]
          refine' wpAnyH_take (i := 14) (v := _) rfl (by kernel_rfl) (by kernel_rfl) (by kernel_rfl) (fun _ _ _ h => h) (Or.inl ⟨by rfl, ?ly474⟩) (by assumption) ?lrest474
          case ly474 =>
            intro w hSw
            unfold S14 at hSw
            go_simp
            try with_reducible rfl
          try simp only [Act.put, List.setIfInBounds_toArray, List.set_cons_zero, List.set_cons_succ, List.getElem_toArray, List.getElem_cons_zero, List.getElem_cons_succ]
          refine' wpAnyH_take (i := 15) (v := _) rfl (by kernel_rfl) (by kernel_rfl) (by kernel_rfl) (fun _ _ _ h => h) (Or.inl ⟨by rfl, ?ly475⟩) (by assumption) ?lrest475
          case ly475 =>
            intro w hSw
            unfold S14 at hSw
            go_simp
            try with_reducible rfl
          try simp only [Act.put, List.setIfInBounds_toArray, List.set_cons_zero, List.set_cons_succ, List.getElem_toArray, List.getElem_cons_zero, List.getElem_cons_succ]
          refine' wpAnyH_take (i := 16) (v := undef) rfl (by kernel_rfl) (by kernel_rfl) (by kernel_rfl) (fun _ _ _ h => h) (Or.inr ⟨by rfl, rfl⟩) (by assumption) ?lrest476
          try simp only [Act.put, List.setIfInBounds_toArray, List.set_cons_zero, List.set_cons_succ, List.getElem_toArray, List.getElem_cons_zero, List.getElem_cons_succ]
          refine' wpAnyH_take (i := 17) (v := undef) rfl (by kernel_rfl) (by kernel_rfl) (by kernel_rfl) (fun _ _ _ h => h) (Or.inr ⟨by rfl, rfl⟩) (by assumption) ?lrest477
          try simp only [Act.put, List.setIfInBounds_toArray, List.set_cons_zero, List.set_cons_succ, List.getElem_toArray, List.getElem_cons_zero, List.getElem_cons_succ]
          refine' wpAnyH_take (i := 18) (v := undef) rfl (by kernel_rfl) (by kernel_rfl) (by kernel_rfl) (fun _ _ _ h => h) (Or.inr ⟨by rfl, rfl⟩) (by assumption) ?lrest478
          try simp only [Act.put, List.setIfInBounds_toArray, List.set_cons_zero, List.set_cons_succ, List.getElem_toArray, List.getElem_cons_zero, List.getElem_cons_succ]
          refine' wpAnyH_take (i := 19) (v := undef) rfl (by kernel_rfl) (by kernel_rfl) (by kernel_rfl) (fun _ _ _ h => h) (Or.inr ⟨by rfl, rfl⟩) (by assumption) ?lrest479
          try simp only [Act.put, List.setIfInBounds_toArray, List.set_cons_zero, List.set_cons_succ, List.getElem_toArray, List.getElem_cons_zero, List.getElem_cons_succ]
          refine' wpAnyH_take (i := 20) (v := _) rfl (by kernel_rfl) (by kernel_rfl) (by kernel_rfl) (fun _ _ _ h => h) (Or.inl ⟨by rfl, ?ly480⟩) (by assumption) ?lrest480
          case ly480 =>
            intro w hSw
            unfold S14 at hSw
            go_simp
            try with_reducible rfl
          try simp only [Act.put, List.setIfInBounds_toArray, List.set_cons_zero, List.set_cons_succ, List.getElem_toArray, List.getElem_cons_zero, List.getElem_cons_succ]
          refine' wpAnyH_take (i := 21) (v := _) rfl (by kernel_rfl) (by kernel_rfl) (by kernel_rfl) (fun _ _ _ h => h) (Or.inl ⟨by rfl, ?ly481⟩) (by assumption) ?lrest481
          case ly481 =>
            intro w hSw
            unfold S14 at hSw
            go_simp
            try with_reducible rfl
          try simp only [Act.put, List.setIfInBounds_toArray, List.set_cons_zero, List.set_cons_succ, List.getElem_toArray, List.getElem_cons_zero, List.getElem_cons_succ]
          refine' wpAnyH_take (i := 22) (v := _) rfl (by kernel_rfl) (by kernel_rfl) (by kernel_rfl) (fun _ _ _ h => h) (Or.inl ⟨by rfl, ?ly482⟩) (by assumption) ?lrest482
          case ly482 =>
            intro w hSw
            unfold S14 at hSw
            go_simp
            try with_reducible rfl
          try simp only [Act.put, List.setIfInBounds_toArray, List.set_cons_zero, List.set_cons_succ, List.getElem_toArray, List.getElem_cons_zero, List.getElem_cons_succ]
          refine' wpAnyH_take (i := 23) (v := _) rfl (by kernel_rfl) (by kernel_rfl) (by kernel_rfl) (fun _ _ _ h => h) (Or.inl ⟨by rfl, ?ly483⟩) (by assumption) ?lrest483
          case ly483 =>
            intro w hSw
            unfold S14 at hSw
            go_simp
            try with_reducible rfl
          try simp only [Act.put, List.setIfInBounds_toArray, List.set_cons_zero, List.set_cons_succ, List.getElem_toArray, List.getElem_cons_zero, List.getElem_cons_succ]
          refine wpAnyH_ready (rs := [24]) (by kernel_rfl) (by simp) ?_
          refine AllReadyH.cons rfl (fun K hK => ?_) AllReadyH.nil
          go_simp
          refine (HWK.out _ hk.bel).mono ?_
          rintro r9 w9 ⟨rfl, gq⟩
          have hk := hk.step gq
          refine hK.out _ _ hk.S (fun hHeld => ?_)
          clear hK K
          try simp only [Act.put, List.setIfInBounds_toArray, List.set_cons_zero, List.set_cons_succ, List.getElem_toArray, List.getElem_cons_zero, List.getElem_cons_succ]
          refine' wpAnyH_take (i := 25) (v := _) rfl (by kernel_rfl) (by kernel_rfl) (by kernel_rfl) (fun _ _ _ h => h) (Or.inl ⟨by rfl, ?ly485⟩) (by assumption) ?lrest485
          case ly485 =>
            intro w hSw
            unfold S14 at hSw
            go_simp
            try with_reducible rfl
          try simp only [Act.put, List.setIfInBounds_toArray, List.set_cons_zero, List.set_cons_succ, List.getElem_toArray, List.getElem_cons_zero, List.getElem_cons_succ]
          refine' wpAnyH_take (i := 26) (v := _) rfl (by kernel_rfl) (by kernel_rfl) (by kernel_rfl) (fun _ _ _ h => h) (Or.inl ⟨by rfl, ?ly486⟩) (by assumption) ?lrest486
          case ly486 =>
            intro w hSw
            unfold S14 at hSw
            go_simp
            try with_reducible rfl
          try simp only [Act.put, List.setIfInBounds_toArray, List.set_cons_zero, List.set_cons_succ, List.getElem_toArray, List.getElem_cons_zero, List.getElem_cons_succ]
          refine wpAnyH_done (by kernel_rfl) ?_ _
          go_wp2_with fail
          go_ret
          exact ⟨rfl, hk.bel⟩
  · have hqr : (r2 = q2 ∧ r3 = q3) → False := by rintro ⟨rfl, rfl⟩; exact hsame (i7.1 rfl)
    have hab : Ad.mk true ah al ≠ Ad.mk true bh bl := by
      intro e
      injection e with _ e2 e3
      subst e2 e3
      exact hsame rfl
    rw [decide_eq_false hsame] at g3
    have HG3 := Lib.hid g3
    clear g3 g4 hsame i7
    have a0 := ha.cell 0; have a1 := ha.cell 1; have a2 := ha.cell 2; have b0 := hb.cell 0; have b1 := hb.cell 1; have b2 := hb.cell 2; have cp0 := hp.cell 0; have cp1 := hp.cell 1; have cp2 := hp.cell 2; have cp3 := hp.cell 3; have cq0 := hq.cell 0; have cq1 := hq.cell 1; have cq2 := hq.cell 2; have cq3 := hq.cell 3; have cr0 := hr.cell 0; have cr1 := hr.cell 1; have cr2 := hr.cell 2; have cr3 := hr.cell 3; simp at a0 a1 a2 b0 b1 b2 cp0 cp1 cp2 cp3 cq0 cq1 cq2 cq3 cr0 cr1 cr2 cr3; clear oka okb hza hM' hN' hMN hNN
    go_upto_region 14 with (first | (go_at_call 22; (with_reducible refine (HM1.out _).mono ?_); rintro r9 w9 ⟨rfl, gq⟩; have hv := after hv gq; have ha := ha.below gq ha.lt; have hb := hb.below gq hb.lt; have hp := hp.below gq hp.lt; have hq := hq.below gq hq.lt; have hr := hr.below gq hr.lt; clear gq; have a0 := ha.cell 0; have a1 := ha.cell 1; have a2 := ha.cell 2; have b0 := hb.cell 0; have b1 := hb.cell 1; have b2 := hb.cell 2; have cp0 := hp.cell 0; have cp1 := hp.cell 1; have cp2 := hp.cell 2; have cp3 := hp.cell 3; have cq0 := hq.cell 0; have cq1 := hq.cell 1; have cq2 := hq.cell 2; have cq3 := hq.cell 3; have cr0 := hr.cell 0; have cr1 := hr.cell 1; have cr2 := hr.cell 2; have cr3 := hr.cell 3; simp at a0 a1 a2 b0 b1 b2 cp0 cp1 cp2 cp3 cq0 cq1 cq2 cq3 cr0 cr1 cr2 cr3) | (go_at_call 22; (with_reducible refine (HM2.out _).mono ?_); rintro r9 w9 ⟨rfl, gq⟩; have hv := after hv gq; have ha := ha.below gq ha.lt; have hb := hb.below gq hb.lt; have hp := hp.below gq hp.lt; have hq := hq.below gq hq.lt; have hr := hr.below gq hr.lt; clear gq; have a0 := ha.cell 0; have a1 := ha.cell 1; have a2 := ha.cell 2; have b0 := hb.cell 0; have b1 := hb.cell 1; have b2 := hb.cell 2; have cp0 := hp.cell 0; have cp1 := hp.cell 1; have cp2 := hp.cell 2; have cp3 := hp.cell 3; have cq0 := hq.cell 0; have cq1 := hq.cell 1; have cq2 := hq.cell 2; have cq3 := hq.cell 3; have cr0 := hr.cell 0; have cr1 := hr.cell 1; have cr2 := hr.cell 2; have cr3 := hr.cell 3; simp at a0 a1 a2 b0 b1 b2 cp0 cp1 cp2 cp3 cq0 cq1 cq2 cq3 cr0 cr1 cr2 cr3) | (go_at_call 28; (with_reducible refine (HG1.out _).mono ?_); rintro r9 w9 ⟨rfl, gq⟩; have hv := after hv gq; have ha := ha.below gq ha.lt; have hb := hb.below gq hb.lt; have hp := hp.below gq hp.lt; have hq := hq.below gq hq.lt; have hr := hr.below gq hr.lt; clear gq; have a0 := ha.cell 0; have a1 := ha.cell 1; have a2 := ha.cell 2; have b0 := hb.cell 0; have b1 := hb.cell 1; have b2 := hb.cell 2; have cp0 := hp.cell 0; have cp1 := hp.cell 1; have cp2 := hp.cell 2; have cp3 := hp.cell 3; have cq0 := hq.cell 0; have cq1 := hq.cell 1; have cq2 := hq.cell 2; have cq3 := hq.cell 3; have cr0 := hr.cell 0; have cr1 := hr.cell 1; have cr2 := hr.cell 2; have cr3 := hr.cell 3; simp at a0 a1 a2 b0 b1 b2 cp0 cp1 cp2 cp3 cq0 cq1 cq2 cq3 cr0 cr1 cr2 cr3) | (go_at_call 28; (with_reducible refine (HG2.out _).mono ?_); rintro r9 w9 ⟨rfl, gq⟩; have hv := after hv gq; have ha := ha.below gq ha.lt; have hb := hb.below gq hb.lt; have hp := hp.below gq hp.lt; have hq := hq.below gq hq.lt; have hr := hr.below gq hr.lt; clear gq; have a0 := ha.cell 0; have a1 := ha.cell 1; have a2 := ha.cell 2; have b0 := hb.cell 0; have b1 := hb.cell 1; have b2 := hb.cell 2; have cp0 := hp.cell 0; have cp1 := hp.cell 1; have cp2 := hp.cell 2; have cp3 := hp.cell 3; have cq0 := hq.cell 0; have cq1 := hq.cell 1; have cq2 := hq.cell 2; have cq3 := hq.cell 3; have cr0 := hr.cell 0; have cr1 := hr.cell 1; have cr2 := hr.cell 2; have cr3 := hr.cell 3; simp at a0 a1 a2 b0 b1 b2 cp0 cp1 cp2 cp3 cq0 cq1 cq2 cq3 cr0 cr1 cr2 cr3) | (go_at_call 28; (with_reducible refine (HG3.out _).mono ?_); rintro r9 w9 ⟨rfl, gq⟩; have hv := after hv gq; have ha := ha.below gq ha.lt; have hb := hb.below gq hb.lt; have hp := hp.below gq hp.lt; have hq := hq.below gq hq.lt; have hr := hr.below gq hr.lt; clear gq; have a0 := ha.cell 0; have a1 := ha.cell 1; have a2 := ha.cell 2; have b0 := hb.cell 0; have b1 := hb.cell 1; have b2 := hb.cell 2; have cp0 := hp.cell 0; have cp1 := hp.cell 1; have cp2 := hp.cell 2; have cp3 := hp.cell 3; have cq0 := hq.cell 0; have cq1 := hq.cell 1; have cq2 := hq.cell 2; have cq3 := hq.cell 3; have cr0 := hr.cell 0; have cr1 := hr.cell 1; have cr2 := hr.cell 2; have cr3 := hr.cell 3; simp at a0 a1 a2 b0 b1 b2 cp0 cp1 cp2 cp3 cq0 cq1 cq2 cq3 cr0 cr1 cr2 cr3) | (go_at_call 28; (with_reducible refine (HG4.out _).mono ?_); rintro r9 w9 ⟨rfl, gq⟩; have hv := after hv gq; have ha := ha.below gq ha.lt; have hb := hb.below gq hb.lt; have hp := hp.below gq hp.lt; have hq := hq.below gq hq.lt; have hr := hr.below gq hr.lt; clear gq; have a0 := ha.cell 0; have a1 := ha.cell 1; have a2 := ha.cell 2; have b0 := hb.cell 0; have b1 := hb.cell 1; have b2 := hb.cell 2; have cp0 := hp.cell 0; have cp1 := hp.cell 1; have cp2 := hp.cell 2; have cp3 := hp.cell 3; have cq0 := hq.cell 0; have cq1 := hq.cell 1; have cq2 := hq.cell 2; have cq3 := hq.cell 3; have cr0 := hr.cell 0; have cr1 := hr.cell 1; have cr2 := hr.cell 2; have cr3 := hr.cell 3; simp at a0 a1 a2 b0 b1 b2 cp0 cp1 cp2 cp3 cq0 cq1 cq2 cq3 cr0 cr1 cr2 cr3) | (go_at_call 30; (with_reducible refine (HL1.out _).mono ?_); rintro r9 w9 ⟨rfl, gq⟩; have hv := after hv gq; have ha := ha.below gq ha.lt; have hb := hb.below gq hb.lt; have hp := hp.below gq hp.lt; have hq := hq.below gq hq.lt; have hr := hr.below gq hr.lt; clear gq; have a0 := ha.cell 0; have a1 := ha.cell 1; have a2 := ha.cell 2; have b0 := hb.cell 0; have b1 := hb.cell 1; have b2 := hb.cell 2; have cp0 := hp.cell 0; have cp1 := hp.cell 1; have cp2 := hp.cell 2; have cp3 := hp.cell 3; have cq0 := hq.cell 0; have cq1 := hq.cell 1; have cq2 := hq.cell 2; have cq3 := hq.cell 3; have cr0 := hr.cell 0; have cr1 := hr.cell 1; have cr2 := hr.cell 2; have cr3 := hr.cell 3; simp at a0 a1 a2 b0 b1 b2 cp0 cp1 cp2 cp3 cq0 cq1 cq2 cq3 cr0 cr1 cr2 cr3) | (go_at_call 30; (with_reducible refine (HL2.out _).mono ?_); rintro r9 w9 ⟨rfl, gq⟩; have hv := after hv gq; have ha := ha.below gq ha.lt; have hb := hb.below gq hb.lt; have hp := hp.below gq hp.lt; have hq := hq.below gq hq.lt; have hr := hr.below gq hr.lt; clear gq; have a0 := ha.cell 0; have a1 := ha.cell 1; have a2 := ha.cell 2; have b0 := hb.cell 0; have b1 := hb.cell 1; have b2 := hb.cell 2; have cp0 := hp.cell 0; have cp1 := hp.cell 1; have cp2 := hp.cell 2; have cp3 := hp.cell 3; have cq0 := hq.cell 0; have cq1 := hq.cell 1; have cq2 := hq.cell 2; have cq3 := hq.cell 3; have cr0 := hr.cell 0; have cr1 := hr.cell 1; have cr2 := hr.cell 2; have cr3 := hr.cell 3; simp at a0 a1 a2 b0 b1 b2 cp0 cp1 cp2 cp3 cq0 cq1 cq2 cq3 cr0 cr1 cr2 cr3) | (go_at_call 9; (with_reducible refine (HWK.out _ hv).mono ?_); rintro r9 w9 ⟨rfl, gq⟩; have hv := after hv gq; have ha := ha.below gq ha.lt; have hb := hb.below gq hb.lt; have hp := hp.below gq hp.lt; have hq := hq.below gq hq.lt; have hr := hr.below gq hr.lt; clear gq; have a0 := ha.cell 0; have a1 := ha.cell 1; have a2 := ha.cell 2; have b0 := hb.cell 0; have b1 := hb.cell 1; have b2 := hb.cell 2; have cp0 := hp.cell 0; have cp1 := hp.cell 1; have cp2 := hp.cell 2; have cp3 := hp.cell 3; have cq0 := hq.cell 0; have cq1 := hq.cell 1; have cq2 := hq.cell 2; have cq3 := hq.cell 3; have cr0 := hr.cell 0; have cr1 := hr.cell 1; have cr2 := hr.cell 2; have cr3 := hr.cell 3; simp at a0 a1 a2 b0 b1 b2 cp0 cp1 cp2 cp3 cq0 cq1 cq2 cq3 cr0 cr1 cr2 cr3))
    have hk : K14 w true w.heap.size (w.heap.size + 1) q r ah al bh bl q2 q3 r2 r3 NN _ := ⟨hv.drew, ha.drew, hb.drew, hq.drew, hr.drew⟩
    clear a0 a1 a2 b0 b1 b2 cp0 cp1 cp2 cp3 cq0 cq1 cq2 cq3 cr0 cr1 cr2 cr3 hv ha hb hp hq hr
    have hls := less_ne hab
    have hlt : (ah = bh ∧ al = bl) → False := by rintro ⟨rfl, rfl⟩; exact hab rfl
    generalize lessA ⟨true, ah, al⟩ ⟨true, bh, bl⟩ = L1 at l1 hls
    generalize lessA ⟨true, bh, bl⟩ ⟨true, ah, al⟩ = L2 at l2 hls
    have HL1 := Lib.hid l1
    have HL2 := Lib.hid l2
    clear l1 l2 hab
    have dj : r2 ≠ q2 ∨ (r2 = q2 ∧ r3 ≠ q3) := by
      rcases Nat.decEq r2 q2 with h | h
      · exact Or.inl h
      · exact Or.inr ⟨h, fun h' => hqr ⟨h, h'⟩⟩
    clear hqr
    rcases dj with dj | ⟨dj, dk⟩
    · have z1 : ((r2 : Int) == (q2 : Int)) = false := by simp; omega
      clear dj
      have dj : ah ≠ bh ∨ (ah = bh ∧ al ≠ bl) := by
        rcases Nat.decEq ah bh with h | h
        · exact Or.inl h
        · exact Or.inr ⟨h, fun h' => hlt ⟨h, h'⟩⟩
      clear hlt
      rcases dj with dj | ⟨dj, dk⟩
      · have z1 : ((ah : Int) == (bh : Int)) = false := by simp; omega
        clear dj
        cases L1 with
        | false =>
          cases L2 with
          | false => exact absurd hls (by decide)
          | true =>
            clear hls
            refine wp_region_held_drew (S := S14 true w.heap.size (w.heap.size + 1) q r ah al bh bl q2 q3 r2 r3 NN) (by kernel_rfl) hk.S (fun hHeld => ?_)
            refine' wpAnyH_take (i := 0) (v := _) rfl (by kernel_rfl) (by kernel_rfl) (by kernel_rfl) (fun _ _ _ h => h) (Or.inl ⟨by rfl, ?ly487⟩) (by assumption) ?lrest487
            case ly487 =>
              intro w hSw
              unfold S14 at hSw
              go_simp
              try with_reducible rfl
            try simp only [Act.put, List.setIfInBounds_toArray, List.set_cons_zero, List.set_cons_succ, List.getElem_toArray, List.getElem_cons_zero, List.getElem_cons_succ]
            refine' wpAnyH_take (i := 1) (v := _) rfl (by kernel_rfl) (by kernel_rfl) (by kernel_rfl) (fun _ _ _ h => h) (Or.inl ⟨by rfl, ?ly488⟩) (by assumption) ?lrest488
            case ly488 =>
              intro w hSw
              unfold S14 at hSw
              go_simp
              try with_reducible rfl
            try simp only [Act.put, List.setIfInBounds_toArray, List.set_cons_zero, List.set_cons_succ, List.getElem_toArray, List.getElem_cons_zero, List.getElem_cons_succ]
            refine' wpAnyH_take (i := 3) (v := _) rfl (by kernel_rfl) (by kernel_rfl) (by kernel_rfl) (fun _ _ _ h => h) (Or.inl ⟨by rfl, ?ly489⟩) (by assumption) ?lrest489
            case ly489 =>
              intro w hSw
              unfold S14 at hSw
              go_simp
              try with_reducible rfl
            try simp only [Act.put, List.setIfInBounds_toArray, List.set_cons_zero, List.set_cons_succ, List.getElem_toArray, List.getElem_cons_zero, List.getElem_cons_succ]
            refine' wpAnyH_take (i := 4) (v := _) rfl (by kernel_rfl) (by kernel_rfl) (by kernel_rfl) (fun _ _ _ h => h) (Or.inl ⟨by rfl, ?ly490⟩) (by assumption) ?lrest490
            case ly490 =>
              intro w hSw
              unfold S14 at hSw
              go_simp
              try with_reducible rfl
            try simp only [Act.put, List.setIfInBounds_toArray, List.set_cons_zero, List.set_cons_succ, List.getElem_toArray, List.getElem_cons_zero, List.getElem_cons_succ]
            refine' wpAnyH_take (i := 5) (v := _) rfl (by kernel_rfl) (by kernel_rfl) (by kernel_rfl) (fun _ _ _ h => h) (Or.inl ⟨by rfl, ?ly491⟩) (by assumption) ?lrest491
            case ly491 =>
              intro w hSw
              unfold S14 at hSw
              go_simp
              try with_reducible rfl
            try simp only [Act.put, List.setIfInBounds_toArray, List.set_cons_zero, List.set_cons_succ, List.getElem_toArray, List.getElem_cons_zero, List.getElem_cons_succ]
            refine wpAnyH_ready (rs := [2]) (by kernel_rfl) (by simp) ?_
            refine AllReadyH.cons rfl (fun K hK => ?_) AllReadyH.nil
            go_simp
            refine (HG3.out _).mono ?_
            rintro r9 w9 ⟨rfl, gq⟩
            have hk := hk.step gq
            refine hK.out _ _ hk.S (fun hHeld => ?_)
            clear hK K
            try simp only [Act.put, List.setIfInBounds_toArray, List.set_cons_zero, List.set_cons_succ, List.getElem_toArray, List.getElem_cons_zero, List.getElem_cons_succ]
            refine' wpAnyH_take (i := 6) (v := _) rfl (by kernel_rfl) (by kernel_rfl) (by kernel_rfl) (fun _ _ _ h => h) (Or.inl ⟨by rfl, ?ly493⟩) (by assumption) ?lrest493
            case ly493 =>
              intro w hSw
              unfold S14 at hSw
              go_simp
              try with_reducible rfl
            try simp only [Act.put, List.setIfInBounds_toArray, List.set_cons_zero, List.set_cons_succ, List.getElem_toArray, List.getElem_cons_zero, List.getElem_cons_succ]
            refine' wpAnyH_take (i := 7) (v := _) rfl (by kernel_rfl) (by kernel_rfl) (by kernel_rfl) (fun _ _ _ h => h) (Or.inl ⟨by rfl, ?ly494⟩) (by assumption) ?lrest494
            case ly494 =>
              intro w hSw
              unfold S14 at hSw
              go_simp
              try with_reducible rfl
            try simp only [Act.put, List.setIfInBounds_toArray, List.set_cons_zero, List.set_cons_succ, List.getElem_toArray, List.getElem_cons_zero, List.getElem_cons_succ]
            refine' wpAnyH_take (i := 8) (v := _) rfl (by kernel_rfl) (by kernel_rfl) (by kernel_rfl) (fun _ _ _ h => h) (Or.inl ⟨by rfl, ?ly495⟩) (by assumption) ?lrest495
            case ly495 =>
              intro w hSw
              unfold S14 at hSw
              go_simp
              try with_reducible rfl
            try simp only [Act.put, List.setIfInBounds_toArray, List.set_cons_zero, List.set_cons_succ, List.getElem_toArray, List.getElem_cons_zero, List.getElem_cons_succ]
            refine' wpAnyH_take (i := 9) (v := _) rfl (by kernel_rfl) (by kernel_rfl) (by kernel_rfl) (fun _ _ _ h => h) (Or.inl ⟨by rfl, ?ly496⟩) (by assumption) ?lrest496
            case ly496 =>
              intro w hSw
              unfold S14 at hSw
              go_simp
              try with_reducible rfl
            try simp only [Act.put, List.setIfInBounds_toArray, List.set_cons_zero, List.set_cons_succ, List.getElem_toArray, List.getElem_cons_zero, List.getElem_cons_succ]
            refine' wpAnyH_take (i := 10) (v := _) rfl (by kernel_rfl) (by kernel_rfl) (by kernel_rfl) (fun _ _ _ h => h) (Or.inl ⟨by rfl, ?ly497⟩) (by assumption) ?lrest497
            case ly497 =>
              intro w hSw
              unfold S14 at hSw
              go_simp
              try with_reducible rfl
            try simp only [Act.put, List.setIfInBounds_toArray, List.set_cons_zero, List.set_cons_succ, List.getElem_toArray, List.getElem_cons_zero, List.getElem_cons_succ]
            refine' wpAnyH_take (i := 11) (v := _) rfl (by kernel_rfl) (by kernel_rfl) (by kernel_rfl) (fun _ _ _ h => h) (Or.inl ⟨by rfl, ?ly498⟩) (by assumption) ?lrest498
            case ly498 =>
              intro w hSw
              unfold S14 at hSw
              go_simp
              try with_reducible rfl
            try simp only [Act.put, List.setIfInBounds_toArray, List.set_cons_zero, List.set_cons_succ, List.getElem_toArray, List.getElem_cons_zero, List.getElem_cons_succ]
            refine' wpAnyH_take (i := 12) (v := _) rfl (by kernel_rfl) (by kernel_rfl) (by kernel_rfl) (fun _ _ _ h => h) (Or.inl ⟨by rfl, ?ly499⟩) (by assumption) ?lrest499
            case ly499 =>
              intro w hSw
              unfold S14 at hSw
              go_simp
              try with_reducible rfl
            try simp only [Act.put, List.setIfInBounds_toArray, List.set_cons_zero, List.set_cons_succ, List.getElem_toArray, List.getElem_cons_zero, List.getElem_cons_succ]
            refine wpAnyH_ready (rs := [13]) (by kernel_rfl) (by simp) ?_
            refine AllReadyH.cons rfl (fun K hK => ?_) AllReadyH.nil
            go_simp
            refine (HL1.out _).mono ?_
            rintro r9 w9 ⟨rfl, gq⟩
            have hk := hk.step gq
            refine hK.out _ _ hk.S (fun hHeld => ?_)
            clear hK K
            try simp only [Act.put, List.setIfInBounds_toArray, List.set_cons_zero, List.set_cons_succ, List.getElem_toArray, List.getElem_cons_zero, List.getElem_cons_succ]
            refine' wpAnyH_take (i := 14) (v := _) rfl (by kernel_rfl) (by kernel_rfl) (by kernel_rfl) (fun _ _ _ h => h) (Or.inl ⟨by rfl, ?ly501⟩) (by assumption) ?lrest501
            case ly501 =>
              intro w hSw
              unfold S14 at hSw
              go_simp
              try with_reducible rfl
            try simp only [Act.put, List.setIfInBounds_toArray, List.set_cons_zero, List.set_cons_succ, List.getElem_toArray, List.getElem_cons_zero, List.getElem_cons_succ]
            refine' wpAnyH_take (i := 15) (v := _) rfl (by kernel_rfl) (by kernel_rfl) (by kernel_rfl) (fun _ _ _ h => h) (Or.inl ⟨by rfl, ?ly502⟩) (by assumption) ?lrest502
            case ly502 =>
              intro w hSw
              unfold S14 at hSw
              go_simp
              try with_reducible rfl
            try simp only [Act.put, List.setIfInBounds_toArray, List.set_cons_zero, List.set_cons_succ, List.getElem_toArray, List.getElem_cons_zero, List.getElem_cons_succ]
            refine' wpAnyH_take (i := 16) (v := _) rfl (by kernel_rfl) (by kernel_rfl) (by kernel_rfl) (fun _ _ _ h => h) (Or.inl ⟨by rfl, ?ly503⟩) (by assumption) ?lrest503
            case ly503 =>
              intro w hSw
              unfold S14 at hSw
              go_simp
              try with_reducible rfl
            try simp only [Act.put, List.setIfInBounds_toArray, List.set_cons_zero, List.set_cons_succ, List.getElem_toArray, List.getElem_cons_zero, List.getElem_cons_succ]
            refine' wpAnyH_take (i := 17) (v := _) rfl (by kernel_rfl) (by kernel_rfl) (by kernel_rfl) (fun _ _ _ h => h) (Or.inl ⟨by rfl, ?ly504⟩) (by assumption) ?lrest504
            case ly504 =>
              intro w hSw
              unfold S14 at hSw
              go_simp
              try with_reducible rfl
            try simp only [Act.put, List.setIfInBounds_toArray, List.set_cons_zero, List.set_cons_succ, List.getElem_toArray, List.getElem_cons_zero, List.getElem_cons_succ]
            refine wpAnyH_ready (rs := [18]) (by kernel_rfl) (by simp) ?_
            refine AllReadyH.cons rfl (fun K hK => ?_) AllReadyH.nil
            go_simp
            refine (HL2.out _).mono ?_
            rintro r9 w9 ⟨rfl, gq⟩
            have hk := hk.step gq
            refine hK.out _ _ hk.S (fun hHeld => ?_)
            clear hK K
            try simp only [Act.put, List.setIfInBounds_toArray, List.set_cons_zero, List.set_cons_succ, List.getElem_toArray, List.getElem_cons_zero, List.getElem_cons_succ]
            refine' wpAnyH_take (i := 19) (v := _) rfl (by kernel_rfl) (by kernel_rfl) (by kernel_rfl) (fun _ _ _ h => h) (Or.inl ⟨by rfl, ?ly506⟩) (by assumption) ?lrest506
            case ly506 =>
              intro w hSw
              unfold S14 at hSw
              go_simp
              try with_reducible rfl
            try simp only [Act.put, List.setIfInBounds_toArray, List.set_cons_zero, List.set_cons_succ, List.getElem_toArray, List.getElem_cons_zero, List.getElem_cons_succ]
            refine' wpAnyH_take (i := 20) (v := _) rfl (by kernel_rfl) (by kernel_rfl) (by kernel_rfl) (fun _ _ _ h => h) (Or.inl ⟨by rfl, ?ly507⟩) (by assumption) ?lrest507
            case ly507 =>
              intro w hSw
              unfold S14 at hSw
              go_simp
              try with_reducible rfl
            try simp only [Act.put, List.setIfInBounds_toArray, List.set_cons_zero, List.set_cons_succ, List.getElem_toArray, List.getElem_cons_zero, List.getElem_cons_succ]
            refine' wpAnyH_take (i := 21) (v := _) rfl (by kernel_rfl) (by kernel_rfl) (by kernel_rfl) (fun _ _ _ h => h) (Or.inl ⟨by rfl, ?ly508⟩) (by assumption) ?lrest508
            case ly508 =>
              intro w hSw
              unfold S14 at hSw
              go_simp
              try with_reducible rfl
            try simp only [Act.put, List.setIfInBounds_toArray, List.set_cons_zero, List.set_cons_succ, List.getElem_toArray, List.getElem_cons_zero, List.getElem_cons_succ]
            refine' wpAnyH_take (i := 22) (v := _) rfl (by kernel_rfl) (by kernel_rfl) (by kernel_rfl) (fun _ _ _ h => h) (Or.inl ⟨by rfl, ?ly509⟩) (by assumption) ?lrest509
            case ly509 =>
              intro w hSw
              unfold S14 at hSw
              go_simp
              try with_reducible rfl
            try simp only [Act.put, List.setIfInBounds_toArray, List.set_cons_zero, List.set_cons_succ, List.getElem_toArray, List.getElem_cons_zero, List.getElem_cons_succ]
            refine' wpAnyH_take (i := 23) (v := _) rfl (by kernel_rfl) (by kernel_rfl) (by kernel_rfl) (fun _ _ _ h => h) (Or.inl ⟨by rfl, ?ly510⟩) (by assumption) ?lrest510
            case ly510 =>
              intro w hSw
              unfold S14 at hSw
              go_simp
              try with_reducible rfl
            try simp only [Act.put, List.setIfInBounds_toArray, List.set_cons_zero, List.set_cons_succ, List.getElem_toArray, List.getElem_cons_zero, List.getElem_cons_succ]
            refine wpAnyH_ready (rs := [24]) (by kernel_rfl) (by simp) ?_
            refine AllReadyH.cons rfl (fun K hK => ?_) AllReadyH.nil
            go_simp
            refine (HWK.out _ hk.bel).mono ?_
            rintro r9 w9 ⟨rfl, gq⟩
            have hk := hk.step gq
            refine hK.out _ _ hk.S (fun hHeld => ?_)
            clear hK K
            try simp only [Act.put, List.setIfInBounds_toArray, List.set_cons_zero, List.set_cons_succ, List.getElem_toArray, List.getElem_cons_zero, List.getElem_cons_succ]
            refine' wpAnyH_take (i := 25) (v := _) rfl (by kernel_rfl) (by kernel_rfl) (by kernel_rfl) (fun _ _ _ h => h) (Or.inl ⟨by rfl, ?ly512⟩) (by assumption) ?lrest512
            case ly512 =>
              intro w hSw
              unfold S14 at hSw
              go_simp
              try with_reducible rfl
            try simp only [Act.put, List.setIfInBounds_toArray, List.set_cons_zero, List.set_cons_succ, List.getElem_toArray, List.getElem_cons_zero, List.getElem_cons_succ]
            refine' wpAnyH_take (i := 26) (v := _) rfl (by kernel_rfl) (by kernel_rfl) (by kernel_rfl) (fun _ _ _ h => h) (Or.inl ⟨by rfl, ?ly513⟩) (by assumption) ?lrest513
            case ly513 =>
              intro w hSw
              unfold S14 at hSw
              go_simp
              try with_reducible rfl
            try simp only [Act.put, List.setIfInBounds_toArray, List.set_cons_zero, List.set_cons_succ, List.getElem_toArray, List.getElem_cons_zero, List.getElem_cons_succ]
            refine wpAnyH_done (by kernel_rfl) ?_ _
            go_wp2_with fail
            go_ret
            exact ⟨rfl, hk.bel⟩
        | true =>
          clear hls
          refine wp_region_held_drew (S := S14 true w.heap.size (w.heap.size + 1) q r ah al bh bl q2 q3 r2 r3 NN) (by kernel_rfl) hk.S (fun hHeld => ?_)
          refine' wpAnyH_take (i := 0) (v := _) rfl (by kernel_rfl) (by kernel_rfl) (by kernel_rfl) (fun _ _ _ h => h) (Or.inl ⟨by rfl, ?ly514⟩) (by assumption) ?lrest514
          case ly514 =>
            intro w hSw
            unfold S14 at hSw
            go_simp
            try with_reducible rfl
          try simp only [Act.put, List.setIfInBounds_toArray, List.set_cons_zero, List.set_cons_succ, List.getElem_toArray, List.getElem_cons_zero, List.getElem_cons_succ]
          refine' wpAnyH_take (i := 1) (v := _) rfl (by kernel_rfl) (by kernel_rfl) (by kernel_rfl) (fun _ _ _ h => h) (Or.inl ⟨by rfl, ?ly515⟩) (by assumption) ?lrest515
          case ly515 =>
            intro w hSw
            unfold S14 at hSw
            go_simp
            try with_reducible rfl
          try simp only [Act.put, List.setIfInBounds_toArray, List.set_cons_zero, List.set_cons_succ, List.getElem_toArray, List.getElem_cons_zero, List.getElem_cons_succ]
          refine' wpAnyH_take (i := 3) (v := _) rfl (by kernel_rfl) (by kernel_rfl) (by kernel_rfl) (fun _ _ _ h => h) (Or.inl ⟨by rfl, ?ly516⟩) (by assumption) ?lrest516
          case ly516 =>
            intro w hSw
            unfold S14 at hSw
            go_simp
            try with_reducible rfl
          try simp only [Act.put, List.setIfInBounds_toArray, List.set_cons_zero, List.set_cons_succ, List.getElem_toArray, List.getElem_cons_zero, List.getElem_cons_succ]
          refine' wpAnyH_take (i := 4) (v := _) rfl (by kernel_rfl) (by kernel_rfl) (by kernel_rfl) (fun _ _ _ h => h) (Or.inl ⟨by rfl, ?ly517⟩) (by assumption) ?lrest517
          case ly517 =>
            intro w hSw
            unfold S14 at hSw
            go_simp
            try with_reducible rfl
          try simp only [Act.put, List.setIfInBounds_toArray, List.set_cons_zero, List.set_cons_succ, List.getElem_toArray, List.getElem_cons_zero, List.getElem_cons_succ]
          refine' wpAnyH_take (i := 5) (v := _) rfl (by kernel_rfl) (by kernel_rfl) (by kernel_rfl) (fun _ _ _ h => h) (Or.inl ⟨by rfl, ?ly518⟩) (by assumption) ?lrest518
          case ly518 =>
            intro w hSw
            unfold S14 at hSw
            go_simp
            try with_reducible rfl
          try simp only [Act.put, List.setIfInBounds_toArray, List.set_cons_zero, List.set_cons_succ, List.getElem_toArray, List.getElem_cons_zero, List.getElem_cons_succ]
          refine wpAnyH_ready (rs := [2]) (by kernel_rfl) (by simp) ?_
          refine AllReadyH.cons rfl (fun K hK => ?_) AllReadyH.nil
          go_simp
          refine (HG3.out _).mono ?_
          rintro r9 w9 ⟨rfl, gq⟩
          have hk := hk.step gq
          refine hK.out _ _ hk.S (fun hHeld => ?_)
          clear hK K
          try simp only [Act.put, List.setIfInBounds_toArray, List.set_cons_zero, List.set_cons_succ, List.getElem_toArray, List.getElem_cons_zero, List.getElem_cons_succ]
          refine' wpAnyH_take (i := 6) (v := _) rfl (by kernel_rfl) (by kernel_rfl) (by kernel_rfl) (fun _ _ _ h => h) (Or.inl ⟨by rfl, ?ly520⟩) (by assumption) ?lrest520
          case ly520 =>
            intro w hSw
            unfold S14 at hSw
            go_simp
            try with_reducible rfl
          try simp only [Act.put, List.setIfInBounds_toArray, List.set_cons_zero, List.set_cons_succ, List.getElem_toArray, List.getElem_cons_zero, List.getElem_cons_succ]
          refine' wpAnyH_take (i := 7) (v := _) rfl (by kernel_rfl) (by kernel_rfl) (by kernel_rfl) (fun _ _ _ h => h) (Or.inl ⟨by rfl, ?ly521⟩) (by assumption) ?lrest521
          case ly521 =>
            intro w hSw
            unfold S14 at hSw
            go_simp
            try with_reducible rfl
          try simp only [Act.put, List.setIfInBounds_toArray, List.set_cons_zero, List.set_cons_succ, List.getElem_toArray, List.getElem_cons_zero, List.getElem_cons_succ]
          refine' wpAnyH_take (i := 8) (v := _) rfl (by kernel_rfl) (by kernel_rfl) (by kernel_rfl) (fun _ _ _ h => h) (Or.inl ⟨by rfl, ?ly522⟩) (by assumption) ?lrest522
          case ly522 =>
            intro w hSw
            unfold S14 at hSw
            go_simp
            try with_reducible rfl
          try simp only [Act.put, List.setIfInBounds_toArray, List.set_cons_zero, List.set_cons_succ, List.getElem_toArray, List.getElem_cons_zero, List.getElem_cons_succ]
          refine' wpAnyH_take (i := 9) (v := _) rfl (by kernel_rfl) (by kernel_rfl) (by kernel_rfl) (fun _ _ _ h => h) (Or.inl ⟨by rfl, ?ly523⟩) (by assumption) ?lrest523
          case ly523 =>
            intro w hSw
            unfold S14 at hSw
            go_simp
            try with_reducible rfl
          try simp only [Act.put, List.setIfInBounds_toArray, List.set_cons_zero, List.set_cons_succ, List.getElem_toArray, List.getElem_cons_zero, List.getElem_cons_succ]
          refine' wpAnyH_take (i := 10) (v := _) rfl (by kernel_rfl) (by kernel_rfl) (by kernel_rfl) (fun _ _ _ h => h) (Or.inl ⟨by rfl, ?ly524⟩) (by assumption) ?lrest524
          case ly524 =>
            intro w hSw
            unfold S14 at hSw
            go_simp
            try with_reducible rfl
          try simp only [Act.put, List.setIfInBounds_toArray, List.set_cons_zero, List.set_cons_succ, List.getElem_toArray, List.getElem_cons_zero, List.getElem_cons_succ]
          refine' wpAnyH_take (i := 11) (v := _) rfl (by kernel_rfl) (by kernel_rfl) (by kernel_rfl) (fun _ _ _ h => h) (Or.inl ⟨by rfl, ?ly525⟩) (by assumption) ?lrest525
          case ly525 =>
            intro w hSw
            unfold S14 at hSw
            go_simp
            try with_reducible rfl
          try simp only [Act.put, List.setIfInBounds_toArray, List.set_cons_zero, List.set_cons_succ, List.getElem_toArray, List.getElem_cons_zero, List.getElem_cons_succ]
          refine' wpAnyH_take (i := 12) (v := _) rfl (by kernel_rfl) (by kernel_rfl) (by kernel_rfl) (fun _ _ _ h => h) (Or.inl ⟨by rfl, ?ly526⟩) (by assumption) ?lrest526
          case ly526 =>
            intro w hSw
            unfold S14 at hSw
            go_simp
            try with_reducible rfl
          try simp only [Act.put, List.setIfInBounds_toArray, List.set_cons_zero, List.set_cons_succ, List.getElem_toArray, List.getElem_cons_zero, List.getElem_cons_succ]
          refine wpAnyH_ready (rs := [13]) (by kernel_rfl) (by simp) ?_
          refine AllReadyH.cons rfl (fun K hK => ?_) AllReadyH.nil
          go_simp
          refine (HL1.out _).mono ?_
          rintro r9 w9 ⟨rfl, gq⟩
          have hk := hk.step gq
          refine hK.out _ _ hk.S (fun hHeld => ?_)
          clear hK K
          try simp only [Act.put, List.setIfInBounds_toArray, List.set_cons_zero, List.set_cons_succ, List.getElem_toArray, List.getElem_cons_zero, List.getElem_cons_succ]
          refine' wpAnyH_take (i := 14) (v := _) rfl (by kernel_rfl) (by kernel_rfl) (by kernel_rfl) (fun _ _ _ h => h) (Or.inl ⟨by rfl, ?ly528⟩) (by assumption) ?lrest528
          case ly528 =>
            intro w hSw
            unfold S14 at hSw
            go_simp
            try with_reducible rfl
          try simp only [Act.put, List.setIfInBounds_toArray, List.set_cons_zero, List.set_cons_succ, List.getElem_toArray, List.getElem_cons_zero, List.getElem_cons_succ]
          refine' wpAnyH_take (i := 15) (v := _) rfl (by kernel_rfl) (by kernel_rfl) (by kernel_rfl) (fun _ _ _ h => h) (Or.inl ⟨by rfl, ?ly529⟩) (by assumption) ?lrest529
          case ly529 =>
            intro w hSw
            unfold S14 at hSw
            go_simp
            try with_reducible rfl
          try simp only [Act.put, List.setIfInBounds_toArray, List.set_cons_zero, List.set_cons_succ, List.getElem_toArray, List.getElem_cons_zero, List.getElem_cons_succ]
          refine' wpAnyH_take (i := 16) (v := undef) rfl (by kernel_rfl) (by kernel_rfl) (by kernel_rfl) (fun _ _ _ h => h) (Or.inr ⟨by rfl, rfl⟩) (by assumption) ?lrest530
          try simp only [Act.put, List.setIfInBounds_toArray, List.set_cons_zero, List.set_cons_succ, List.getElem_toArray, List.getElem_cons_zero, List.getElem_cons_succ]
          refine' wpAnyH_take (i := 17) (v := undef) rfl (by kernel_rfl) (by kernel_rfl) (by kernel_rfl) (fun _ _ _ h => h) (Or.inr ⟨by rfl, rfl⟩) (by assumption) ?lrest531
          try simp only [Act.put, List.setIfInBounds_toArray, List.set_cons_zero, List.set_cons_succ, List.getElem_toArray, List.getElem_cons_zero, List.getElem_cons_succ]
          refine' wpAnyH_take (i := 18) (v := undef) rfl (by kernel_rfl) (by kernel_rfl) (by kernel_rfl) (fun _ _ _ h => h) (Or.inr ⟨by rfl, rfl⟩) (by assumption) ?lrest532
          try simp only [Act.put, List.setIfInBounds_toArray, List.set_cons_zero, List.set_cons_succ, List.getElem_toArray, List.getElem_cons_zero, List.getElem_cons_succ]
          refine' wpAnyH_take (i := 19) (v := undef) rfl (by kernel_rfl) (by kernel_rfl) (by kernel_rfl) (fun _ _ _ h => h) (Or.inr ⟨by rfl, rfl⟩) (by assumption) ?lrest533
          try simp only [Act.put, List.setIfInBounds_toArray, List.set_cons_zero, List.set_cons_succ, List.getElem_toArray, List.getElem_cons_zero, List.getElem_cons_succ]
          refine' wpAnyH_take (i := 20) (v := _) rfl (by kernel_rfl) (by kernel_rfl) (by kernel_rfl) (fun _ _ _ h => h) (Or.inl ⟨by rfl, ?ly534⟩) (by assumption) ?lrest534
          case ly534 =>
            intro w hSw
            unfold S14 at hSw
            go_simp
            try with_reducible rfl
          try simp only [Act.put, List.setIfInBounds_toArray, List.set_cons_zero, List.set_cons_succ, List.getElem_toArray, List.getElem_cons_zero, List.getElem_cons_succ]
          refine' wpAnyH_take (i := 21) (v := _) rfl (by kernel_rfl) (by kernel_rfl) (by kernel_rfl) (fun _ _ _ h => h) (Or.inl ⟨by rfl, ?ly535⟩) (by assumption) ?lrest535
          case ly535 =>
            intro w hSw
            unfold S14 at hSw
            go_simp
            try with_reducible rfl
          try simp only [Act.put, List.setIfInBounds_toArray, List.set_cons_zero, List.set_cons_succ, List.getElem_toArray, List.getElem_cons_zero, List.getElem_cons_succ]
          refine' wpAnyH_take (i := 22) (v := _) rfl (by kernel_rfl) (by kernel_rfl) (by kernel_rfl) (fun _ _ _ h => h) (Or.inl ⟨by rfl, ?ly536⟩) (by assumption) ?lrest536
          case ly536 =>
            intro w hSw
            unfold S14 at hSw
            go_simp
            try with_reducible rfl
          try simp only [Act.put, List.setIfInBounds_toArray, List.set_cons_zero, List.set_cons_succ, List.getElem_toArray, List.getElem_cons_zero, List.getElem_cons_succ]
          refine' wpAnyH_take (i := 23) (v := _) rfl (by kernel_rfl) (by kernel_rfl) (by kernel_rfl) (fun _ _ _ h => h) (Or.inl ⟨by rfl, ?ly537⟩) (by assumption) ?lrest537
          case ly537 =>
            intro w hSw
            unfold S14 at hSw
            go_simp
            try with_reducible rfl
          try simp only [Act.put, List.setIfInBounds_toArray, List.set_cons_zero, List.set_cons_succ, List.getElem_toArray, List.getElem_cons_zero, List.getElem_cons_succ]
          refine wpAnyH_ready (rs := [24]) (by kernel_rfl) (by simp) ?_
          refine AllReadyH.cons rfl (fun K hK => ?_) AllReadyH.nil
          go_simp
          refine (HWK.out _ hk.bel).mono ?_
          rintro r9 w9 ⟨rfl, gq⟩
          have hk := hk.step gq
          refine hK.out _ _ hk.S (fun hHeld => ?_)
          clear hK K
          try simp only [Act.put, List.setIfInBounds_toArray, List.set_cons_zero, List.set_cons_succ, List.getElem_toArray, List.getElem_cons_zero, List.getElem_cons_succ]
          refine' wpAnyH_take (i := 25) (v := _) rfl (by kernel_rfl) (by kernel_rfl) (by kernel_rfl) (fun _ _ _ h => h) (Or.inl ⟨by rfl, ?ly539⟩) (by assumption) ?lrest539
          case ly539 =>
            intro w hSw
            unfold S14 at hSw
            go_simp
            try with_reducible rfl
          try simp only [Act.put, List.setIfInBounds_toArray, List.set_cons_zero, List.set_cons_succ, List.getElem_toArray, List.getElem_cons_zero, List.getElem_cons_succ]
          refine' wpAnyH_take (i := 26) (v := _) rfl (by kernel_rfl) (by kernel_rfl) (by kernel_rfl) (fun _ _ _ h => h) (Or.inl ⟨by rfl, ?ly540⟩) (by assumption) ?lrest540
          case ly540 =>
            intro w hSw
            unfold S14 at hSw
            go_simp
            try with_reducible rfl
          try simp only [Act.put, List.setIfInBounds_toArray, List.set_cons_zero, List.set_cons_succ, List.getElem_toArray, List.getElem_cons_zero, List.getElem_cons_succ]
          refine wpAnyH_done (by kernel_rfl) ?_ _
          go_wp2_with fail
          go_ret
          exact ⟨rfl, hk.bel⟩
      · subst dj
        have z2 : ((al : Int) == (bl : Int)) = false := by simp; omega
        clear dk
        cases L1 with
        | false =>
          cases L2 with
          | false => exact absurd hls (by decide)
          | true =>
            clear hls
            refine wp_region_held_drew (S := S14 true w.heap.size (w.heap.size + 1) q r ah al ah bl q2 q3 r2 r3 NN) (by kernel_rfl) hk.S (fun hHeld => ?_)
            refine' wpAnyH_take (i := 0) (v := _) rfl (by kernel_rfl) (by kernel_rfl) (by kernel_rfl) (fun _ _ _ h => h) (Or.inl ⟨by rfl, ?ly541⟩) (by assumption) ?lrest541
            case ly541 =>
              intro w hSw
              unfold S14 at hSw
              go_simp
              try with_reducible rfl
            try simp only [Act.put, List.setIfInBounds_toArray, List.set_cons_zero, List.set_cons_succ, List.getElem_toArray, List.getElem_cons_zero, List.getElem_cons_succ]
            refine' wpAnyH_take (i := 1) (v := _) rfl (by kernel_rfl) (by kernel_rfl) (by kernel_rfl) (fun _ _ _ h => h) (Or.inl ⟨by rfl, ?ly542⟩) (by assumption) ?lrest542
            case ly542 =>
              intro w hSw
              unfold S14 at hSw
              go_simp
              try with_reducible rfl
            try simp only [Act.put, List.setIfInBounds_toArray, List.set_cons_zero, List.set_cons_succ, List.getElem_toArray, List.getElem_cons_zero, List.getElem_cons_succ]
            refine' wpAnyH_take (i := 3) (v := _) rfl (by kernel_rfl) (by kernel_rfl) (by kernel_rfl) (fun _ _ _ h => h) (Or.inl ⟨by rfl, ?ly543⟩) (by assumption) ?lrest543
            case ly543 =>
              intro w hSw
              unfold S14 at hSw
              go_simp
              try with_reducible rfl
            try simp only [Act.put, List.setIfInBounds_toArray, List.set_cons_zero, List.set_cons_succ, List.getElem_toArray, List.getElem_cons_zero, List.getElem_cons_succ]
            refine' wpAnyH_take (i := 4) (v := _) rfl (by kernel_rfl) (by kernel_rfl) (by kernel_rfl) (fun _ _ _ h => h) (Or.inl ⟨by rfl, ?ly544⟩) (by assumption) ?lrest544
            case ly544 =>
              intro w hSw
              unfold S14 at hSw
              go_simp
              try with_reducible rfl
            try simp only [Act.put, List.setIfInBounds_toArray, List.set_cons_zero, List.set_cons_succ, List.getElem_toArray, List.getElem_cons_zero, List.getElem_cons_succ]
            refine' wpAnyH_take (i := 5) (v := _) rfl (by kernel_rfl) (by kernel_rfl) (by kernel_rfl) (fun _ _ _ h => h) (Or.inl ⟨by rfl, ?ly545⟩) (by assumption) ?lrest545
            case ly545 =>
              intro w hSw
              unfold S14 at hSw
              go_simp
              try with_reducible rfl
            try simp only [Act.put, List.setIfInBounds_toArray, List.set_cons_zero, List.set_cons_succ, List.getElem_toArray, List.getElem_cons_zero, List.getElem_cons_succ]
            refine wpAnyH_ready (rs := [2]) (by kernel_rfl) (by simp) ?_
            refine AllReadyH.cons rfl (fun K hK => ?_) AllReadyH.nil
            go_simp
            refine (HG3.out _).mono ?_
            rintro r9 w9 ⟨rfl, gq⟩
            have hk := hk.step gq
            refine hK.out _ _ hk.S (fun hHeld => ?_)
            clear hK K
            try simp only [Act.put, List.setIfInBounds_toArray, List.set_cons_zero, List.set_cons_succ, List.getElem_toArray, List.getElem_cons_zero, List.getElem_cons_succ]
            refine' wpAnyH_take (i := 6) (v := _) rfl (by kernel_rfl) (by kernel_rfl) (by kernel_rfl) (fun _ _ _ h => h) (Or.inl ⟨by rfl, ?ly547⟩) (by assumption) ?lrest547
            case ly547 =>
              intro w hSw
              unfold S14 at hSw
              go_simp
              try with_reducible rfl
            try simp only [Act.put, List.setIfInBounds_toArray, List.set_cons_zero, List.set_cons_succ, List.getElem_toArray, List.getElem_cons_zero, List.getElem_cons_succ]
            refine' wpAnyH_take (i := 7) (v := _) rfl (by kernel_rfl) (by kernel_rfl) (by kernel_rfl) (fun _ _ _ h => h) (Or.inl ⟨by rfl, ?ly548⟩) (by assumption) ?lrest548
            case ly548 =>
              intro w hSw
              unfold S14 at hSw
              go_simp
              try with_reducible rfl
            try simp only [Act.put, List.setIfInBounds_toArray, List.set_cons_zero, List.set_cons_succ, List.getElem_toArray, List.getElem_cons_zero, List.getElem_cons_succ]
            refine' wpAnyH_take (i := 8) (v := _) rfl (by kernel_rfl) (by kernel_rfl) (by kernel_rfl) (fun _ _ _ h => h) (Or.inl ⟨by rfl, ?ly549⟩) (by assumption) ?lrest549
            case ly549 =>
              intro w hSw
              unfold S14 at hSw
              go_simp
              try with_reducible rfl
            try simp only [Act.put, List.setIfInBounds_toArray, List.set_cons_zero, List.set_cons_succ, List.getElem_toArray, List.getElem_cons_zero, List.getElem_cons_succ]
            refine' wpAnyH_take (i := 9) (v := _) rfl (by kernel_rfl) (by kernel_rfl) (by kernel_rfl) (fun _ _ _ h => h) (Or.inl ⟨by rfl, ?ly550⟩) (by assumption) ?lrest550
            case ly550 =>
              intro w hSw
              unfold S14 at hSw
              go_simp
              try with_reducible rfl
            try simp only [Act.put, List.setIfInBounds_toArray, List.set_cons_zero, List.set_cons_succ, List.getElem_toArray, List.getElem_cons_zero, List.getElem_cons_succ]
            refine' wpAnyH_take (i := 10) (v := _) rfl (by kernel_rfl) (by kernel_rfl) (by kernel_rfl) (fun _ _ _ h => h) (Or.inl ⟨by rfl, ?ly551⟩) (by assumption) ?lrest551
            case ly551 =>
              intro w hSw
              unfold S14 at hSw
              go_simp
              try with_reducible rfl
            try simp only [Act.put, List.setIfInBounds_toArray, List.set_cons_zero, List.set_cons_succ, List.getElem_toArray, List.getElem_cons_zero, List.getElem_cons_succ]
            refine' wpAnyH_take (i := 11) (v := _) rfl (by kernel_rfl) (by kernel_rfl) (by kernel_rfl) (fun _ _ _ h => h) (Or.inl ⟨by rfl, ?ly552⟩) (by assumption) ?lrest552
            case ly552 =>
              intro w hSw
              unfold S14 at hSw
              go_simp
              try with_reducible rfl
            try simp only [Act.put, List.setIfInBounds_toArray, List.set_cons_zero, List.set_cons_succ, List.getElem_toArray, List.getElem_cons_zero, List.getElem_cons_succ]
            refine' wpAnyH_take (i := 12) (v := _) rfl (by kernel_rfl) (by kernel_rfl) (by kernel_rfl) (fun _ _ _ h => h) (Or.inl ⟨by rfl, ?ly553⟩) (by assumption) ?lrest553
            case ly553 =>
              intro w hSw
              unfold S14 at hSw
              go_simp
              try with_reducible rfl
            try simp only [Act.put, List.setIfInBounds_toArray, List.set_cons_zero, List.set_cons_succ, List.getElem_toArray, List.getElem_cons_zero, List.getElem_cons_succ]
            refine wpAnyH_ready (rs := [13]) (by kernel_rfl) (by simp) ?_
            refine AllReadyH.cons rfl (fun K hK => ?_) AllReadyH.nil
            go_simp
            refine (HL1.out _).mono ?_
            rintro r9 w9 ⟨rfl, gq⟩
            have hk := hk.step gq
            refine hK.out _ _ hk.S (fun hHeld => ?_)
            clear hK K
            try simp only [Act.put, List.setIfInBounds_toArray, List.set_cons_zero, List.set_cons_succ, List.getElem_toArray, List.getElem_cons_zero, List.getElem_cons_succ]
            refine' wpAnyH_take (i := 14) (v := _) rfl (by kernel_rfl) (by kernel_rfl) (by kernel_rfl) (fun _ _ _ h => h) (Or.inl ⟨by rfl, ?ly555⟩) (by assumption) ?lrest555
            case ly555 =>
              intro w hSw
              unfold S14 at hSw
              go_simp
              try with_reducible rfl
            try simp only [Act.put, List.setIfInBounds_toArray, List.set_cons_zero, List.set_cons_succ, List.getElem_toArray, List.getElem_cons_zero, List.getElem_cons_succ]
            refine' wpAnyH_take (i := 15) (v := _) rfl (by kernel_rfl) (by kernel_rfl) (by kernel_rfl) (fun _ _ _ h => h) (Or.inl ⟨by rfl, ?ly556⟩) (by assumption) ?lrest556
            case ly556 =>
              intro w hSw
              unfold S14 at hSw
              go_simp
              try with_reducible rfl
            try simp only [Act.put, List.setIfInBounds_toArray, List.set_cons_zero, List.set_cons_succ, List.getElem_toArray, List.getElem_cons_zero, List.getElem_cons_succ]
            refine' wpAnyH_take (i := 16) (v := _) rfl (by kernel_rfl) (by kernel_rfl) (by kernel_rfl) (fun _ _ _ h => h) (Or.inl ⟨by rfl, ?ly557⟩) (by assumption) ?lrest557
            case ly557 =>
              intro w hSw
              unfold S14 at hSw
              go_simp
              try with_reducible rfl
            try simp only [Act.put, List.setIfInBounds_toArray, List.set_cons_zero, List.set_cons_succ, List.getElem_toArray, List.getElem_cons_zero, List.getElem_cons_succ]
            refine' wpAnyH_take (i := 17) (v := _) rfl (by kernel_rfl) (by kernel_rfl) (by kernel_rfl) (fun _ _ _ h => h) (Or.inl ⟨by rfl, ?ly558⟩) (by assumption) ?lrest558
            case ly558 =>
              intro w hSw
              unfold S14 at hSw
              go_simp
              try with_reducible rfl
            try simp only [Act.put, List.setIfInBounds_toArray, List.set_cons_zero, List.set_cons_succ, List.getElem_toArray, List.getElem_cons_zero, List.getElem_cons_succ]
            refine wpAnyH_ready (rs := [18]) (by kernel_rfl) (by simp) ?_
            refine AllReadyH.cons rfl (fun K hK => ?_) AllReadyH.nil
            go_simp
            refine (HL2.out _).mono ?_
            rintro r9 w9 ⟨rfl, gq⟩
            have hk := hk.step gq
            refine hK.out _ _ hk.S (fun hHeld => ?_)
            clear hK K
            try simp only [Act.put, List.setIfInBounds_toArray, List.set_cons_zero, List.set_cons_succ, List.getElem_toArray, List.getElem_cons_zero, List.getElem_cons_succ]
            refine' wpAnyH_take (i := 19) (v := _) rfl (by kernel_rfl) (by kernel_rfl) (by kernel_rfl) (fun _ _ _ h => h) (Or.inl ⟨by rfl, ?ly560⟩) (by assumption) ?lrest560
            case ly560 =>
              intro w hSw
              unfold S14 at hSw
              go_simp
              try with_reducible rfl
            try simp only [Act.put, List.setIfInBounds_toArray, List.set_cons_zero, List.set_cons_succ, List.getElem_toArray, List.getElem_cons_zero, List.getElem_cons_succ]
            refine' wpAnyH_take (i := 20) (v := _) rfl (by kernel_rfl) (by kernel_rfl) (by kernel_rfl) (fun _ _ _ h => h) (Or.inl ⟨by rfl, ?ly561⟩) (by assumption) ?lrest561
            case ly561 =>
              intro w hSw
              unfold S14 at hSw
              go_simp
              try with_reducible rfl
            try simp only [Act.put, List.setIfInBounds_toArray, List.set_cons_zero, List.set_cons_succ, List.getElem_toArray, List.getElem_cons_zero, List.getElem_cons_succ]
            refine' wpAnyH_take (i := 21) (v := _) rfl (by kernel_rfl) (by kernel_rfl) (by kernel_rfl) (fun _ _ _ h => h) (Or.inl ⟨by rfl, ?ly562⟩) (by assumption) ?lrest562
            case ly562 =>
              intro w hSw
              unfold S14 at hSw
              go_simp
              try with_reducible rfl
            try simp only [Act.put, List.setIfInBounds_toArray, List.set_cons_zero, List.set_cons_succ, List.getElem_toArray, List.getElem_cons_zero, List.getElem_cons_succ]
            refine' wpAnyH_take (i := 22) (v := _) rfl (by kernel_rfl) (by kernel_rfl) (by kernel_rfl) (fun _ _ _ h => h) (Or.inl ⟨by rfl, ?ly563⟩) (by assumption) ?lrest563
            case ly563 =>
              intro w hSw
              unfold S14 at hSw
              go_simp
              try with_reducible rfl
            try simp only [Act.put, List.setIfInBounds_toArray, List.set_cons_zero, List.set_cons_succ, List.getElem_toArray, List.getElem_cons_zero, List.getElem_cons_succ]
            refine' wpAnyH_take (i := 23) (v := _) rfl (by kernel_rfl) (by kernel_rfl) (by kernel_rfl) (fun _ _ _ h => h) (Or.inl ⟨by rfl, ?ly564⟩) (by assumption) ?lrest564
            case ly564 =>
              intro w hSw
              unfold S14 at hSw
              go_simp
              try with_reducible rfl
            try simp only [Act.put, List.setIfInBounds_toArray, List.set_cons_zero, List.set_cons_succ, List.getElem_toArray, List.getElem_cons_zero, List.getElem_cons_succ]
            refine wpAnyH_ready (rs := [24]) (by kernel_rfl) (by simp) ?_
            refine AllReadyH.cons rfl (fun K hK => ?_) AllReadyH.nil
            go_simp
            refine (HWK.out _ hk.bel).mono ?_
            rintro r9 w9 ⟨rfl, gq⟩
            have hk := hk.step gq
            refine hK.out _ _ hk.S (fun hHeld => ?_)
            clear hK K
            try simp only [Act.put, List.setIfInBounds_toArray, List.set_cons_zero, List.set_cons_succ, List.getElem_toArray, List.getElem_cons_zero, List.getElem_cons_succ]
            refine' wpAnyH_take (i := 25) (v := _) rfl (by kernel_rfl) (by kernel_rfl) (by kernel_rfl) (fun _ _ _ h => h) (Or.inl ⟨by rfl, ?ly566⟩) (by assumption) ?lrest566
            case ly566 =>
              intro w hSw
              unfold S14 at hSw
              go_simp
              try with_reducible rfl
            try simp only [Act.put, List.setIfInBounds_toArray, List.set_cons_zero, List.set_cons_succ, List.getElem_toArray, List.getElem_cons_zero, List.getElem_cons_succ]
            refine' wpAnyH_take (i := 26) (v := _) rfl (by kernel_rfl) (by kernel_rfl) (by kernel_rfl) (fun _ _ _ h => h) (Or.inl ⟨by rfl, ?ly567⟩) (by assumption) ?lrest567
            case ly567 =>
              intro w hSw
              unfold S14 at hSw
              go_simp
              try with_reducible rfl
            try simp only [Act.put, List.setIfInBounds_toArray, List.set_cons_zero, List.set_cons_succ, List.getElem_toArray, List.getElem_cons_zero, List.getElem_cons_succ]
            refine wpAnyH_done (by kernel_rfl) ?_ _
            go_wp2_with fail
            go_ret
            exact ⟨rfl, hk.bel⟩
        | true =>
          clear hls
          refine wp_region_held_drew (S := S14 true w.heap.size (w.heap.size + 1) q r ah al ah bl q2 q3 r2 r3 NN) (by kernel_rfl) hk.S (fun hHeld => ?_)
          refine' wpAnyH_take (i := 0) (v := _) rfl (by kernel_rfl) (by kernel_rfl) (by kernel_rfl) (fun _ _ _ h => h) (Or.inl ⟨by rfl, ?ly568⟩) (by assumption) ?lrest568
          case ly568 =>
            intro w hSw
            unfold S14 at hSw
            go_simp
            try with_reducible rfl
          try simp only [Act.put, List.setIfInBounds_toArray, List.set_cons_zero, List.set_cons_succ, List.getElem_toArray, List.getElem_cons_zero, List.getElem_cons_succ]
          refine' wpAnyH_take (i := 1) (v := _) rfl (by kernel_rfl) (by kernel_rfl) (by kernel_rfl) (fun _ _ _ h => h) (Or.inl ⟨by rfl, ?ly569⟩) (by assumption) ?lrest569
          case ly569 =>
            intro w hSw
            unfold S14 at hSw
            go_simp
            try with_reducible rfl
          try simp only [Act.put, List.setIfInBounds_toArray, List.set_cons_zero, List.set_cons_succ, List.getElem_toArray, List.getElem_cons_zero, List.getElem_cons_succ]
          refine' wpAnyH_take (i := 3) (v := _) rfl (by kernel_rfl) (by kernel_rfl) (by kernel_rfl) (fun _ _ _ h => h) (Or.inl ⟨by rfl, ?ly570⟩) (by assumption) ?lrest570
          case ly570 =>
            intro w hSw
            unfold S14 at hSw
            go_simp
            try with_reducible rfl
          try simp only [Act.put, List.setIfInBounds_toArray, List.set_cons_zero, List.set_cons_succ, List.getElem_toArray, List.getElem_cons_zero, List.getElem_cons_succ]
          refine' wpAnyH_take (i := 4) (v := _) rfl (by kernel_rfl) (by kernel_rfl) (by kernel_rfl) (fun _ _ _ h => h) (Or.inl ⟨by rfl, ?ly571⟩) (by assumption) ?lrest571
          case ly571 =>
            intro w hSw
            unfold S14 at hSw
            go_simp
            try with_reducible rfl
          try simp only [Act.put, List.setIfInBounds_toArray, List.set_cons_zero, List.set_cons_succ, List.getElem_toArray, List.getElem_cons_zero, List.getElem_cons_succ]
          refine' wpAnyH_take (i := 5) (v := _) rfl (by kernel_rfl) (by kernel_rfl) (by kernel_rfl) (fun _ _ _ h => h) (Or.inl ⟨by rfl, ?ly572⟩) (by assumption) ?lrest572
          case ly572 =>
            intro w hSw
            unfold S14 at hSw
            go_simp
            try with_reducible rfl
          try simp only [Act.put, List.setIfInBounds_toArray, List.set_cons_zero, List.set_cons_succ, List.getElem_toArray, List.getElem_cons_zero, List.getElem_cons_succ]
          refine wpAnyH_ready (rs := [2]) (by kernel_rfl) (by simp) ?_
          refine AllReadyH.cons rfl (fun K hK => ?_) AllReadyH.nil
          go_simp
          refine (HG3.out _).mono ?_
          rintro r9 w9 ⟨rfl, gq⟩
          have hk := hk.step gq
          refine hK.out _ _ hk.S (fun hHeld => ?_)
          clear hK K
          try simp only [Act.put, List.setIfInBounds_toArray, List.set_cons_zero, List.set_cons_succ, List.getElem_toArray, List.getElem_cons_zero, List.getElem_cons_succ]
          refine' wpAnyH_take (i := 6) (v := _) rfl (by kernel_rfl) (by kernel_rfl) (by kernel_rfl) (fun _ _ _ h => h) (Or.inl ⟨by rfl, ?ly574⟩) (by assumption) ?lrest574
          case ly574 =>
            intro w hSw
            unfold S14 at hSw
            go_simp
            try with_reducible rfl
          try simp only [Act.put, List.setIfInBounds_toArray, List.set_cons_zero, List.set_cons_succ, List.getElem_toArray, List.getElem_cons_zero, List.getElem_cons_succ]
          refine' wpAnyH_take (i := 7) (v := _) rfl (by kernel_rfl) (by kernel_rfl) (by kernel_rfl) (fun _ _ _ h => h) (Or.inl ⟨by rfl, ?ly575⟩) (by assumption) ?lrest575
          case ly575 =>
            intro w hSw
            unfold S14 at hSw
            go_simp
            try with_reducible rfl
          try simp only [Act.put, List.setIfInBounds_toArray, List.set_cons_zero, List.set_cons_succ, List.getElem_toArray, List.getElem_cons_zero, List.getElem_cons_succ]
          refine' wpAnyH_take (i := 8) (v := _) rfl (by kernel_rfl) (by kernel_rfl) (by kernel_rfl) (fun _ _ _ h => h) (Or.inl ⟨by rfl, ?ly576⟩) (by assumption) ?lrest576
          case ly576 =>
            intro w hSw
            unfold S14 at hSw
            go_simp
            try with_reducible rfl
          try simp only [Act.put, List.setIfInBounds_toArray, List.set_cons_zero, List.set_cons_succ, List.getElem_toArray, List.getElem_cons_zero, List.getElem_cons_succ]
          refine' wpAnyH_take (i := 9) (v := _) rfl (by kernel_rfl) (by kernel_rfl) (by kernel_rfl) (fun _ _ _ h => h) (Or.inl ⟨by rfl, ?ly577⟩) (by assumption) ?lrest577
          case ly577 =>
            intro w hSw
            unfold S14 at hSw
            go_simp
            try with_reducible rfl
          try simp only [Act.put, List.setIfInBounds_toArray, List.set_cons_zero, List.set_cons_succ, List.getElem_toArray, List.getElem_cons_zero, List.getElem_cons_succ]
          refine' wpAnyH_take (i := 10) (v := _) rfl (by kernel_rfl) (by kernel_rfl) (by kernel_rfl) (fun _ _ _ h => h) (Or.inl ⟨by rfl, ?ly578⟩) (by assumption) ?lrest578
          case ly578 =>
            intro w hSw
            unfold S14 at hSw
            go_simp
            try with_reducible rfl
          try simp only [Act.put, List.setIfInBounds_toArray, List.set_cons_zero, List.set_cons_succ, List.getElem_toArray, List.getElem_cons_zero, List.getElem_cons_succ]
          refine' wpAnyH_take (i := 11) (v := _) rfl (by kernel_rfl) (by kernel_rfl) (by kernel_rfl) (fun _ _ _ h => h) (Or.inl ⟨by rfl, ?ly579⟩) (by assumption) ?lrest579
          case ly579 =>
            intro w hSw
            unfold S14 at hSw
            go_simp
            try with_reducible rfl
          try simp only [Act.put, List.setIfInBounds_toArray, List.set_cons_zero, List.set_cons_succ, List.getElem_toArray, List.getElem_cons_zero, List.getElem_cons_succ]
          refine' wpAnyH_take (i := 12) (v := _) rfl (by kernel_rfl) (by kernel_rfl) (by kernel_rfl) (fun _ _ _ h => h) (Or.inl ⟨by rfl, ?ly580⟩) (by assumption) ?lrest580
          case ly580 =>
            intro w hSw
            unfold S14 at hSw
            go_simp
            try with_reducible rfl
          try simp only [Act.put, List.setIfInBounds_toArray, List.set_cons_zero, List.set_cons_succ, List.getElem_toArray, List.getElem_cons_zero, List.getElem_cons_succ]
          refine wpAnyH_ready (rs := [13]) (by kernel_rfl) (by simp) ?_
          refine AllReadyH.cons rfl (fun K hK => ?_) AllReadyH.nil
          go_simp
          refine (HL1.out _).mono ?_
          rintro r9 w9 ⟨rfl, gq⟩
          have hk := hk.step gq
          refine hK.out _ _ hk.S (fun hHeld => ?_)
          clear hK K
          try simp only [Act.put, List.setIfInBounds_toArray, List.set_cons_zero, List.set_cons_succ, List.getElem_toArray, List.getElem_cons_zero, List.getElem_cons_succ]
          refine' wpAnyH_take (i := 14) (v := _) rfl (by kernel_rfl) (by kernel_rfl) (by kernel_rfl) (fun _ _ _ h => h) (Or.inl ⟨by rfl, ?ly582⟩) (by assumption) ?lrest582
          case ly582 =>
            intro w hSw
            unfold S14 at hSw
            go_simp
            try with_reducible rfl
          try simp only [Act.put, List.setIfInBounds_toArray, List.set_cons_zero, List.set_cons_succ, List.getElem_toArray, List.getElem_cons_zero, List.getElem_cons_succ]
          refine' wpAnyH_take (i := 15) (v := _) rfl (by kernel_rfl) (by kernel_rfl) (by kernel_rfl) (fun _ _ _ h => h) (Or.inl ⟨by rfl, ?ly583⟩) (by assumption) ?lrest583
          case ly583 =>
            intro w hSw
            unfold S14 at hSw
            go_simp
            try with_reducible rfl
          try simp only [Act.put, List.setIfInBounds_toArray, List.set_cons_zero, List.set_cons_succ, List.getElem_toArray, List.getElem_cons_zero, List.getElem_cons_succ]
          refine' wpAnyH_take (i := 16) (v := undef) rfl (by kernel_rfl) (by kernel_rfl) (by kernel_rfl) (fun _ _ _ h => h) (Or.inr ⟨by rfl, rfl⟩) (by assumption) ?lrest584
          try simp only [Act.put, List.setIfInBounds_toArray, List.set_cons_zero, List.set_cons_succ, List.getElem_toArray, List.getElem_cons_zero, List.getElem_cons_succ]
          refine' wpAnyH_take (i := 17) (v := undef) rfl (by kernel_rfl) (by kernel_rfl) (by kernel_rfl) (fun _ _ _ h => h) (Or.inr ⟨by rfl, rfl⟩) (by assumption) ?lrest585
          try simp only [Act.put, List.setIfInBounds_toArray, List.set_cons_zero, List.set_cons_succ, List.getElem_toArray, List.getElem_cons_zero, List.getElem_cons_succ]
          refine' wpAnyH_take (i := 18) (v := undef) rfl (by kernel_rfl) (by kernel_rfl) (by kernel_rfl) (fun _ _ _ h => h) (Or.inr ⟨by rfl, rfl⟩) (by assumption) ?lrest586
          try simp only [Act.put, List.setIfInBounds_toArray, List.set_cons_zero, List.set_cons_succ, List.getElem_toArray, List.getElem_cons_zero, List.getElem_cons_succ]
          refine' wpAnyH_take (i := 19) (v := undef) rfl (by kernel_rfl) (by kernel_rfl) (by kernel_rfl) (fun _ _ _ h => h) (Or.inr ⟨by rfl, rfl⟩) (by assumption) ?lrest587
          try simp only [Act.put, List.setIfInBounds_toArray, List.set_cons_zero, List.set_cons_succ, List.getElem_toArray, List.getElem_cons_zero, List.getElem_cons_succ]
          refine' wpAnyH_take (i := 20) (v := _) rfl (by kernel_rfl) (by kernel_rfl) (by kernel_rfl) (fun _ _ _ h => h) (Or.inl ⟨by rfl, ?ly588⟩) (by assumption) ?lrest588
          case ly588 =>
            intro w hSw
            unfold S14 at hSw
            go_simp
            try with_reducible rfl
          try simp only [Act.put, List.setIfInBounds_toArray, List.set_cons_zero, List.set_cons_succ, List.getElem_toArray, List.getElem_cons_zero, List.getElem_cons_succ]
          refine' wpAnyH_take (i := 21) (v := _) rfl (by kernel_rfl) (by kernel_rfl) (by kernel_rfl) (fun _ _ _ h => h) (Or.inl ⟨by rfl, ?ly589⟩) (by assumption) ?lrest589
          case ly589 =>
            intro w hSw
            unfold S14 at hSw
            go_simp
            try with_reducible rfl
          try simp only [Act.put, List.setIfInBounds_toArray, List.set_cons_zero, List.set_cons_succ, List.getElem_toArray, List.getElem_cons_zero, List.getElem_cons_succ]
          refine' wpAnyH_take (i := 22) (v := _) rfl (by kernel_rfl) (by kernel_rfl) (by kernel_rfl) (fun _ _ _ h => h) (Or.inl ⟨by rfl, ?ly590⟩) (by assumption) ?lrest590
          case ly590 =>
            intro w hSw
            unfold S14 at hSw
            go_simp
            try with_reducible rfl
          try simp only [Act.put, List.setIfInBounds_toArray, List.set_cons_zero, List.set_cons_succ, List.getElem_toArray, List.getElem_cons_zero, List.getElem_cons_succ]
          refine' wpAnyH_take (i := 23) (v := _) rfl (by kernel_rfl) (by kernel_rfl) (by kernel_rfl) (fun _ _ _ h => h) (Or.inl ⟨by rfl, ?ly591⟩) (by assumption) ?lrest591
          case ly591 =>
            intro w hSw
            unfold S14 at hSw
            go_simp
            try with_reducible rfl
          try simp only [Act.put, List.setIfInBounds_toArray, List.set_cons_zero, List.set_cons_succ, List.getElem_toArray, List.getElem_cons_zero, List.getElem_cons_succ]
          refine wpAnyH_ready (rs := [24]) (by kernel_rfl) (by simp) ?_
          refine AllReadyH.cons rfl (fun K hK => ?_) AllReadyH.nil
          go_simp
          refine (HWK.out _ hk.bel).mono ?_
          rintro r9 w9 ⟨rfl, gq⟩
          have hk := hk.step gq
          refine hK.out _ _ hk.S (fun hHeld => ?_)
          clear hK K
          try simp only [Act.put, List.setIfInBounds_toArray, List.set_cons_zero, List.set_cons_succ, List.getElem_toArray, List.getElem_cons_zero, List.getElem_cons_succ]
          refine' wpAnyH_take (i := 25) (v := _) rfl (by kernel_rfl) (by kernel_rfl) (by kernel_rfl) (fun _ _ _ h => h) (Or.inl ⟨by rfl, ?ly593⟩) (by assumption) ?lrest593
          case ly593 =>
            intro w hSw
            unfold S14 at hSw
            go_simp
            try with_reducible rfl
          try simp only [Act.put, List.setIfInBounds_toArray, List.set_cons_zero, List.set_cons_succ, List.getElem_toArray, List.getElem_cons_zero, List.getElem_cons_succ]
          refine' wpAnyH_take (i := 26) (v := _) rfl (by kernel_rfl) (by kernel_rfl) (by kernel_rfl) (fun _ _ _ h => h) (Or.inl ⟨by rfl, ?ly594⟩) (by assumption) ?lrest594
          case ly594 =>
            intro w hSw
            unfold S14 at hSw
            go_simp
            try with_reducible rfl
          try simp only [Act.put, List.setIfInBounds_toArray, List.set_cons_zero, List.set_cons_succ, List.getElem_toArray, List.getElem_cons_zero, List.getElem_cons_succ]
          refine wpAnyH_done (by kernel_rfl) ?_ _
          go_wp2_with fail
          go_ret
          exact ⟨rfl, hk.bel⟩
    · subst dj
      have z2 : ((r3 : Int) == (q3 : Int)) = false := by simp; omega
      clear dk
      have dj : ah ≠ bh ∨ (ah = bh ∧ al ≠ bl) := by
        rcases Nat.decEq ah bh with h | h
        · exact Or.inl h
        · exact Or.inr ⟨h, fun h' => hlt ⟨h, h'⟩⟩
      clear hlt
      rcases dj with dj | ⟨dj, dk⟩
      · have z1 : ((ah : Int) == (bh : Int)) = false := by simp; omega
        clear dj
        cases L1 with
        | false =>
          cases L2 with
          | false => exact absurd hls (by decide)
          | true =>
            clear hls
            refine wp_region_held_drew (S := S14 true w.heap.size (w.heap.size + 1) q r ah al bh bl r2 q3 r2 r3 NN) (by kernel_rfl) hk.S (fun hHeld => ?_)
            refine' wpAnyH_take (i := 0) (v := _) rfl (by kernel_rfl) (by kernel_rfl) (by kernel_rfl) (fun _ _ _ h => h) (Or.inl ⟨by rfl, ?ly595⟩) (by assumption) ?lrest595
            case ly595 =>
              intro w hSw
              unfold S14 at hSw
              go_simp
              try with_reducible rfl
            try simp only [Act.put, List.setIfInBounds_toArray, List.set_cons_zero, List.set_cons_succ, List.getElem_toArray, List.getElem_cons_zero, List.getElem_cons_succ]
            refine' wpAnyH_take (i := 1) (v := _) rfl (by kernel_rfl) (by kernel_rfl) (by kernel_rfl) (fun _ _ _ h => h) (Or.inl ⟨by rfl, ?ly596⟩) (by assumption) ?lrest596
            case ly596 =>
              intro w hSw
              unfold S14 at hSw
              go_simp
              try with_reducible rfl
            try simp only [Act.put, List.setIfInBounds_toArray, List.set_cons_zero, List.set_cons_succ, List.getElem_toArray, List.getElem_cons_zero, List.getElem_cons_succ]
            refine' wpAnyH_take (i := 3) (v := _) rfl (by kernel_rfl) (by kernel_rfl) (by kernel_rfl) (fun _ _ _ h => h) (Or.inl ⟨by rfl, ?ly597⟩) (by assumption) ?lrest597
            case ly597 =>
              intro w hSw
              unfold S14 at hSw
              go_simp
              try with_reducible rfl
            try simp only [Act.put, List.setIfInBounds_toArray, List.set_cons_zero, List.set_cons_succ, List.getElem_toArray, List.getElem_cons_zero, List.getElem_cons_succ]
            refine' wpAnyH_take (i := 4) (v := _) rfl (by kernel_rfl) (by kernel_rfl) (by kernel_rfl) (fun _ _ _ h => h) (Or.inl ⟨by rfl, ?ly598⟩) (by assumption) ?lrest598
            case ly598 =>
              intro w hSw
              unfold S14 at hSw
              go_simp
              try with_reducible rfl
            try simp only [Act.put, List.setIfInBounds_toArray, List.set_cons_zero, List.set_cons_succ, List.getElem_toArray, List.getElem_cons_zero, List.getElem_cons_succ]
            refine' wpAnyH_take (i := 5) (v := _) rfl (by kernel_rfl) (by kernel_rfl) (by kernel_rfl) (fun _ _ _ h => h) (Or.inl ⟨by rfl, ?ly599⟩) (by assumption) ?lrest599
            case ly599 =>
              intro w hSw
              unfold S14 at hSw
              go_simp
              try with_reducible rfl
            try simp only [Act.put, List.setIfInBounds_toArray, List.set_cons_zero, List.set_cons_succ, List.getElem_toArray, List.getElem_cons_zero, List.getElem_cons_succ]
            refine wpAnyH_ready (rs := [2]) (by kernel_rfl) (by simp) ?_
            refine AllReadyH.cons rfl (fun K hK => ?_) AllReadyH.nil
            go_simp
            refine (HG3.out _).mono ?_
            rintro r9 w9 ⟨rfl, gq⟩
            have hk := hk.step gq
            refine hK.out _ _ hk.S (fun hHeld => ?_)
            clear hK K
            try simp only [Act.put, List.setIfInBounds_toArray, List.set_cons_zero, List.set_cons_succ, List.getElem_toArray, List.getElem_cons_zero, List.getElem_cons_succ]
            refine' wpAnyH_take (i := 6) (v := _) rfl (by kernel_rfl) (by kernel_rfl) (by kernel_rfl) (fun _ _ _ h => h) (Or.inl ⟨by rfl, ?ly601⟩) (by assumption) ?lrest601
            case ly601 =>
              intro w hSw
              unfold S14 at hSw
              go_simp
              try with_reducible rfl
            try simp only [Act.put, List.setIfInBounds_toArray, List.set_cons_zero, List.set_cons_succ, List.getElem_toArray, List.getElem_cons_zero, List.getElem_cons_succ]
            refine' wpAnyH_take (i := 7) (v := _) rfl (by kernel_rfl) (by kernel_rfl) (by kernel_rfl) (fun _ _ _ h => h) (Or.inl ⟨by rfl, ?ly602⟩) (by assumption) ?lrest602
            case ly602 =>
              intro w hSw
              unfold S14 at hSw
              go_simp
              try with_reducible rfl
            try simp only [Act.put, List.setIfInBounds_toArray, List.set_cons_zero, List.set_cons_succ, List.getElem_toArray, List.getElem_cons_zero, List.getElem_cons_succ]
            refine' wpAnyH_take (i := 8) (v := _) rfl (by kernel_rfl) (by kernel_rfl) (by kernel_rfl) (fun _ _ _ h => h) (Or.inl ⟨by rfl, ?ly603⟩) (by assumption) ?lrest603
            case ly603 =>
              intro w hSw
              unfold S14 at hSw
              go_simp
              try with_reducible rfl
            try simp only [Act.put, List.setIfInBounds_toArray, List.set_cons_zero, List.set_cons_succ, List.getElem_toArray, List.getElem_cons_zero, List.getElem_cons_succ]
            refine' wpAnyH_take (i := 9) (v := _) rfl (by kernel_rfl) (by kernel_rfl) (by kernel_rfl) (fun _ _ _ h => h) (Or.inl ⟨by rfl, ?ly604⟩) (by assumption) ?lrest604
            case ly604 =>
              intro w hSw
              unfold S14 at hSw
              go_simp
              try with_reducible rfl
            try simp only [Act.put, List.setIfInBounds_toArray, List.set_cons_zero, List.set_cons_succ, List.getElem_toArray, List.getElem_cons_zero, List.getElem_cons_succ]
            refine' wpAnyH_take (i := 10) (v := _) rfl (by kernel_rfl) (by kernel_rfl) (by kernel_rfl) (fun _ _ _ h => h) (Or.inl ⟨by rfl, ?ly605⟩) (by assumption) ?lrest605
            case ly605 =>
              intro w hSw
              unfold S14 at hSw
              go_simp
              try with_reducible rfl
            try simp only [Act.put, List.setIfInBounds_toArray, List.set_cons_zero, List.set_cons_succ, List.getElem_toArray, List.getElem_cons_zero, List.getElem_cons_succ]
            refine' wpAnyH_take (i := 11) (v := _) rfl (by kernel_rfl) (by kernel_rfl) (by kernel_rfl) (fun _ _ _ h => h) (Or.inl ⟨by rfl, ?ly606⟩) (by assumption) ?lrest606
            case ly606 =>
              intro w hSw
              unfold S14 at hSw
              go_simp
              try with_reducible rfl
            try simp only [Act.put, List.setIfInBounds_toArray, List.set_cons_zero, List.set_cons_succ, List.getElem_toArray, List.getElem_cons_zero, List.getElem_cons_succ]
            refine' wpAnyH_take (i := 12) (v := _) rfl (by kernel_rfl) (by kernel_rfl) (by kernel_rfl) (fun _ _ _ h => h) (Or.inl ⟨by rfl, ?ly607⟩) (by assumption) ?lrest607
            case ly607 =>
              intro w hSw
              unfold S14 at hSw
              go_simp
              try with_reducible rfl
            try simp only [Act.put, List.setIfInBounds_toArray, List.set_cons_zero, List.set_cons_succ, List.getElem_toArray, List.getElem_cons_zero, List.getElem_cons_succ]
            refine wpAnyH_ready (rs := [13]) (by kernel_rfl) (by simp) ?_
            refine AllReadyH.cons rfl (fun K hK => ?_) AllReadyH.nil
            go_simp
            refine (HL1.out _).mono ?_
            rintro r9 w9 ⟨rfl, gq⟩
            have hk := hk.step gq
            refine hK.out _ _ hk.S (fun hHeld => ?_)
            clear hK K
            try simp only [Act.put, List.setIfInBounds_toArray, List.set_cons_zero, List.set_cons_succ, List.getElem_toArray, List.getElem_cons_zero, List.getElem_cons_succ]
            refine' wpAnyH_take (i := 14) (v := _) rfl (by kernel_rfl) (by kernel_rfl) (by kernel_rfl) (fun _ _ _ h => h) (Or.inl ⟨by rfl, ?ly609⟩) (by assumption) ?lrest609
            case ly609 =>
              intro w hSw
              unfold S14 at hSw
              go_simp
              try with_reducible rfl
            try simp only [Act.put, List.setIfInBounds_toArray, List.set_cons_zero, List.set_cons_succ, List.getElem_toArray, List.getElem_cons_zero, List.getElem_cons_succ]
            refine' wpAnyH_take (i := 15) (v := _) rfl (by kernel_rfl) (by kernel_rfl) (by kernel_rfl) (fun _ _ _ h => h) (Or.inl ⟨by rfl, ?ly610⟩) (by assumption) ?lrest610
            case ly610 =>
              intro w hSw
              unfold S14 at hSw
              go_simp
              try with_reducible rfl
            try simp only [Act.put, List.setIfInBounds_toArray, List.set_cons_zero, List.set_cons_succ, List.getElem_toArray, List.getElem_cons_zero, List.getElem_cons_succ]
            refine' wpAnyH_take (i := 16) (v := _) rfl (by kernel_rfl) (by kernel_rfl) (by kernel_rfl) (fun _ _ _ h => h) (Or.inl ⟨by rfl, ?ly611⟩) (by assumption) ?lrest611
            case ly611 =>
              intro w hSw
              unfold S14 at hSw
              go_simp
              try with_reducible rfl
            try simp only [Act.put, List.setIfInBounds_toArray, List.set_cons_zero, List.set_cons_succ, List.getElem_toArray, List.getElem_cons_zero, List.getElem_cons_succ]
            refine' wpAnyH_take (i := 17) (v := _) rfl (by kernel_rfl) (by kernel_rfl) (by kernel_rfl) (fun _ _ _ h => h) (Or.inl ⟨by rfl, ?ly612⟩) (by assumption) ?lrest612
            case ly612 =>
              intro w hSw
              unfold S14 at hSw
              go_simp
              try with_reducible rfl
            try simp only [Act.put, List.setIfInBounds_toArray, List.set_cons_zero, List.set_cons_succ, List.getElem_toArray, List.getElem_cons_zero, List.getElem_cons_succ]
            refine wpAnyH_ready (rs := [18]) (by kernel_rfl) (by simp) ?_
            refine AllReadyH.cons rfl (fun K hK => ?_) AllReadyH.nil
            go_simp
            refine (HL2.out _).mono ?_
            rintro r9 w9 ⟨rfl, gq⟩
            have hk := hk.step gq
            refine hK.out _ _ hk.S (fun hHeld => ?_)
            clear hK K
            try simp only [Act.put, List.setIfInBounds_toArray, List.set_cons_zero, List.set_cons_succ, List.getElem_toArray, List.getElem_cons_zero, List.getElem_cons_succ]
            refine' wpAnyH_take (i := 19) (v := _) rfl (by kernel_rfl) (by kernel_rfl) (by kernel_rfl) (fun _ _ _ h => h) (Or.inl ⟨by rfl, ?ly614⟩) (by assumption) ?lrest614
            case ly614 =>
              intro w hSw
              unfold S14 at hSw
              go_simp
              try with_reducible rfl
            try simp only [Act.put, List.setIfInBounds_toArray, List.set_cons_zero, List.set_cons_succ, List.getElem_toArray, List.getElem_cons_zero, List.getElem_cons_succ]
            refine' wpAnyH_take (i := 20) (v := _) rfl (by kernel_rfl) (by kernel_rfl) (by kernel_rfl) (fun _ _ _ h => h) (Or.inl ⟨by rfl, ?ly615⟩) (by assumption) ?lrest615
            case ly615 =>
              intro w hSw
              unfold S14 at hSw
              go_simp
              try with_reducible rfl
            try simp only [Act.put, List.setIfInBounds_toArray, List.set_cons_zero, List.set_cons_succ, List.getElem_toArray, List.getElem_cons_zero, List.getElem_cons_succ]
            refine' wpAnyH_take (i := 21) (v := _) rfl (by kernel_rfl) (by kernel_rfl) (by kernel_rfl) (fun _ _ _ h => h) (Or.inl ⟨by rfl, ?ly616⟩) (by assumption) ?lrest616
            case ly616 =>
              intro w hSw
              unfold S14 at hSw
              go_simp
              try with_reducible rfl
            try simp only [Act.put, List.setIfInBounds_toArray, List.set_cons_zero, List.set_cons_succ, List.getElem_toArray, List.getElem_cons_zero, List.getElem_cons_succ]
            refine' wpAnyH_take (i := 22) (v := _) rfl (by kernel_rfl) (by kernel_rfl) (by kernel_rfl) (fun _ _ _ h => h) (Or.inl ⟨by rfl, ?ly617⟩) (by assumption) ?lrest617
            case ly617 =>
              intro w hSw
              unfold S14 at hSw
              go_simp
              try with_reducible rfl
            try simp only [Act.put, List.setIfInBounds_toArray, List.set_cons_zero, List.set_cons_succ, List.getElem_toArray, List.getElem_cons_zero, List.getElem_cons_succ]
            refine' wpAnyH_take (i := 23) (v := _) rfl (by kernel_rfl) (by kernel_rfl) (by kernel_rfl) (fun _ _ _ h => h) (Or.inl ⟨by rfl, ?ly618⟩) (by assumption) ?lrest618
            case ly618 =>
              intro w hSw
              unfold S14 at hSw
              go_simp
              try with_reducible rfl
            try simp only [Act.put, List.setIfInBounds_toArray, List.set_cons_zero, List.set_cons_succ, List.getElem_toArray, List.getElem_cons_zero, List.getElem_cons_succ]
            refine wpAnyH_ready (rs := [24]) (by kernel_rfl) (by simp) ?_
            refine AllReadyH.cons rfl (fun K hK => ?_) AllReadyH.nil
            go_simp
            refine (HWK.out _ hk.bel).mono ?_
            rintro r9 w9 ⟨rfl, gq⟩
            have hk := hk.step gq
            refine hK.out _ _ hk.S (fun hHeld => ?_)
            clear hK K
            try simp only [Act.put, List.setIfInBounds_toArray, List.set_cons_zero, List.set_cons_succ, List.getElem_toArray, List.getElem_cons_zero, List.getElem_cons_succ]
            refine' wpAnyH_take (i := 25) (v := _) rfl (by kernel_rfl) (by kernel_rfl) (by kernel_rfl) (fun _ _ _ h => h) (Or.inl ⟨by rfl, ?ly620⟩) (by assumption) ?lrest620
            case ly620 =>
              intro w hSw
              unfold S14 at hSw
              go_simp
              try with_reducible rfl
            try simp only [Act.put, List.setIfInBounds_toArray, List.set_cons_zero, List.set_cons_succ, List.getElem_toArray, List.getElem_cons_zero, List.getElem_cons_succ]
            refine' wpAnyH_take (i := 26) (v := _) rfl (by kernel_rfl) (by kernel_rfl) (by kernel_rfl) (fun _ _ _ h => h) (Or.inl ⟨by rfl, ?ly621⟩) (by assumption) ?lrest621
            case ly621 =>
              intro w hSw
              unfold S14 at hSw
              go_simp
              try with_reducible rfl
            try simp only [Act.put, List.setIfInBounds_toArray, List.set_cons_zero, List.set_cons_succ, List.getElem_toArray, List.getElem_cons_zero, List.getElem_cons_succ]
            refine wpAnyH_done (by kernel_rfl) ?_ _
            go_wp2_with fail
            go_ret
            exact ⟨rfl, hk.bel⟩
        | true =>
          clear hls
          refine wp_region_held_drew (S := S14 true w.heap.size (w.heap.size + 1) q r ah al bh bl r2 q3 r2 r3 NN) (by kernel_rfl) hk.S (fun hHeld => ?_)
          refine' wpAnyH_take (i := 0) (v := _) rfl (by kernel_rfl) (by kernel_rfl) (by kernel_rfl) (fun _ _ _ h => h) (Or.inl ⟨by rfl, ?ly622⟩) (by assumption) ?lrest622
          case ly622 =>
            intro w hSw
            unfold S14 at hSw
            go_simp
            try with_reducible rfl
          try simp only [Act.put, List.setIfInBounds_toArray, List.set_cons_zero, List.set_cons_succ, List.getElem_toArray, List.getElem_cons_zero, List.getElem_cons_succ]
          refine' wpAnyH_take (i := 1) (v := _) rfl (by kernel_rfl) (by kernel_rfl) (by kernel_rfl) (fun _ _ _ h => h) (Or.inl ⟨by rfl, ?ly623⟩) (by assumption) ?lrest623
          case ly623 =>
            intro w hSw
            unfold S14 at hSw
            go_simp
            try with_reducible rfl
          try simp only [Act.put, List.setIfInBounds_toArray, List.set_cons_zero, List.set_cons_succ, List.getElem_toArray, List.getElem_cons_zero, List.getElem_cons_succ]
          refine' wpAnyH_take (i := 3) (v := _) rfl (by kernel_rfl) (by kernel_rfl) (by kernel_rfl) (fun _ _ _ h => h) (Or.inl ⟨by rfl, ?ly624⟩) (by assumption) ?lrest624
          case ly624 =>
            intro w hSw
            unfold S14 at hSw
            go_simp
            try with_reducible rfl
          try simp only [Act.put, List.setIfInBounds_toArray, List.set_cons_zero, List.set_cons_succ, List.getElem_toArray, List.getElem_cons_zero, List.getElem_cons_succ]
          refine' wpAnyH_take (i := 4) (v := _) rfl (by kernel_rfl) (by kernel_rfl) (by kernel_rfl) (fun _ _ _ h => h) (Or.inl ⟨by rfl, ?ly625⟩) (by assumption) ?lrest625
          case ly625 =>
            intro w hSw
            unfold S14 at hSw
            go_simp
            try with_reducible rfl
          try simp only [Act.put, List.setIfInBounds_toArray, List.set_cons_zero, List.set_cons_succ, List.getElem_toArray, List.getElem_cons_zero, List.getElem_cons_succ]
          refine' wpAnyH_take (i := 5) (v := _) rfl (by kernel_rfl) (by kernel_rfl) (by kernel_rfl) (fun _ _ _ h => h) (Or.inl ⟨by rfl, ?ly626⟩) (by assumption) ?lrest626
          case ly626 =>
            intro w hSw
            unfold S14 at hSw
            go_simp
            try with_reducible rfl
          try simp only [Act.put, List.setIfInBounds_toArray, List.set_cons_zero, List.set_cons_succ, List.getElem_toArray, List.getElem_cons_zero, List.getElem_cons_succ]
          refine wpAnyH_ready (rs := [2]) (by kernel_rfl) (by simp) ?_
          refine AllReadyH.cons rfl (fun K hK => ?_) AllReadyH.nil
          go_simp
          refine (HG3.out _).mono ?_
          rintro r9 w9 ⟨rfl, gq⟩
          have hk := hk.step gq
          refine hK.out _ _ hk.S (fun hHeld => ?_)
          clear hK K
          try simp only [Act.put, List.setIfInBounds_toArray, List.set_cons_zero, List.set_cons_succ, List.getElem_toArray, List.getElem_cons_zero, List.getElem_cons_succ]
          refine' wpAnyH_take (i := 6) (v := _) rfl (by kernel_rfl) (by kernel_rfl) (by kernel_rfl) (fun _ _ _ h => h) (Or.inl ⟨by rfl, ?ly628⟩) (by assumption) ?lrest628
          case ly628 =>
            intro w hSw
            unfold S14 at hSw
            go_simp
            try with_reducible rfl
          try simp only [Act.put, List.setIfInBounds_toArray, List.set_cons_zero, List.set_cons_succ, List.getElem_toArray, List.getElem_cons_zero, List.getElem_cons_succ]
          refine' wpAnyH_take (i := 7) (v := _) rfl (by kernel_rfl) (by kernel_rfl) (by kernel_rfl) (fun _ _ _ h => h) (Or.inl ⟨by rfl, ?ly629⟩) (by assumption) ?lrest629
          case ly629 =>
            intro w hSw
            unfold S14 at hSw
            go_simp
            try with_reducible rfl
          try simp only [Act.put, List.setIfInBounds_toArray, List.set_cons_zero, List.set_cons_succ, List.getElem_toArray, List.getElem_cons_zero, List.getElem_cons_succ]
          refine' wpAnyH_take (i := 8) (v := _) rfl (by kernel_rfl) (by kernel_rfl) (by kernel_rfl) (fun _ _ _ h => h) (Or.inl ⟨by rfl, ?ly630⟩) (by assumption) ?lrest630
          case ly630 =>
            intro w hSw
            unfold S14 at hSw
            go_simp
            try with_reducible rfl
          try simp only [Act.put, List.setIfInBounds_toArray, List.set_cons_zero, List.set_cons_succ, List.getElem_toArray, List.getElem_cons_zero, List.getElem_cons_succ]
          refine' wpAnyH_take (i := 9) (v := _) rfl (by kernel_rfl) (by kernel_rfl) (by kernel_rfl) (fun _ _ _ h => h) (Or.inl ⟨by rfl, ?ly631⟩) (by assumption) ?lrest631
          case ly631 =>
            intro w hSw
            unfold S14 at hSw
            go_simp
            try with_reducible rfl
          try simp only [Act.put, List.setIfInBounds_toArray, List.set_cons_zero, List.set_cons_succ, List.getElem_toArray, List.getElem_cons_zero, List.getElem_cons_succ]
          refine' wpAnyH_take (i := 10) (v := _) rfl (by kernel_rfl) (by kernel_rfl) (by kernel_rfl) (fun _ _ _ h => h) (Or.inl ⟨by rfl, ?ly632⟩) (by assumption) ?lrest632
          case ly632 =>
            intro w hSw
            unfold S14 at hSw
            go_simp
            try with_reducible rfl
          try simp only [Act.put, List.setIfInBounds_toArray, List.set_cons_zero, List.set_cons_succ, List.getElem_toArray, List.getElem_cons_zero, List.getElem_cons_succ]
          refine' wpAnyH_take (i := 11) (v := _) rfl (by kernel_rfl) (by kernel_rfl) (by kernel_rfl) (fun _ _ _ h => h) (Or.inl ⟨by rfl, ?ly633⟩) (by assumption) ?lrest633
          case ly633 =>
            intro w hSw
            unfold S14 at hSw
            go_simp
            try with_reducible rfl
          try simp only [Act.put, List.setIfInBounds_toArray, List.set_cons_zero, List.set_cons_succ, List.getElem_toArray, List.getElem_cons_zero, List.getElem_cons_succ]
          refine' wpAnyH_take (i := 12) (v := _) rfl (by kernel_rfl) (by kernel_rfl) (by kernel_rfl) (fun _ _ _ h => h) (Or.inl ⟨by rfl, ?ly634⟩) (by assumption) ?lrest634
          case ly634 =>
            intro w hSw
            unfold S14 at hSw
            go_simp
            try with_reducible rfl
          try simp only [Act.put, List.setIfInBounds_toArray, List.set_cons_zero, List.set_cons_succ, List.getElem_toArray, List.getElem_cons_zero, List.getElem_cons_succ]
          refine wpAnyH_ready (rs := [13]) (by kernel_rfl) (by simp) ?_
          refine AllReadyH.cons rfl (fun K hK => ?_) AllReadyH.nil
          go_simp
          refine (HL1.out _).mono ?_
          rintro r9 w9 ⟨rfl, gq⟩
          have hk := hk.step gq
          refine hK.out _ _ hk.S (fun hHeld => ?_)
          clear hK K
          try simp only [Act.put, List.setIfInBounds_toArray, List.set_cons_zero, List.set_cons_succ, List.getElem_toArray, List.getElem_cons_zero, List.getElem_cons_succ]
          refine' wpAnyH_take (i := 14) (v := _) rfl (by kernel_rfl) (by kernel_rfl) (by kernel_rfl) (fun _ _ _ h => h) (Or.inl ⟨by rfl, ?ly636⟩) (by assumption) ?lrest636
          case ly636 =>
            intro w hSw
            unfold S14 at hSw
            go_simp
            try with_reducible rfl
          try simp only [Act.put, List.setIfInBounds_toArray, List.set_cons_zero, List.set_cons_succ, List.getElem_toArray, List.getElem_cons_zero, List.getElem_cons_succ]
          refine' wpAnyH_take (i := 15) (v := _) rfl (by kernel_rfl) (by kernel_rfl) (by kernel_rfl) (fun _ _ _ h => h) (Or.inl ⟨by rfl, ?ly637⟩) (by assumption) ?lrest637
          case ly637 =>
            intro w hSw
            unfold S14 at hSw
            go_simp
            try with_reducible rfl
          try simp only [Act.put, List.setIfInBounds_toArray, List.set_cons_zero, List.set_cons_succ, List.getElem_toArray, List.getElem_cons_zero, List.getElem_cons_succ]
          refine' wpAnyH_take (i := 16) (v := undef) rfl (by kernel_rfl) (by kernel_rfl) (by kernel_rfl) (fun _ _ _ h => h) (Or.inr ⟨by rfl, rfl⟩) (by assumption) ?lrest638
          try simp only [Act.put, List.setIfInBounds_toArray, List.set_cons_zero, List.set_cons_succ, List.getElem_toArray, List.getElem_cons_zero, List.getElem_cons_succ]
          refine' wpAnyH_take (i := 17) (v := undef) rfl (by kernel_rfl) (by kernel_rfl) (by kernel_rfl) (fun _ _ _ h => h) (Or.inr ⟨by rfl, rfl⟩) (by assumption) ?lrest639
          try simp only [Act.put, List.setIfInBounds_toArray, List.set_cons_zero, List.set_cons_succ, List.getElem_toArray, List.getElem_cons_zero, List.getElem_cons_succ]
          refine' wpAnyH_take (i := 18) (v := undef) rfl (by kernel_rfl) (by kernel_rfl) (by kernel_rfl) (fun _ _ _ h => h) (Or.inr ⟨by rfl, rfl⟩) (by assumption) ?lrest640
          try simp only [Act.put, List.setIfInBounds_toArray, List.set_cons_zero, List.set_cons_succ, List.getElem_toArray, List.getElem_cons_zero, List.getElem_cons_succ]
          refine' wpAnyH_take (i := 19) (v := undef) rfl (by kernel_rfl) (by kernel_rfl) (by kernel_rfl) (fun _ _ _ h => h) (Or.inr ⟨by rfl, rfl⟩) (by assumption) ?lrest641
          try simp only [Act.put, List.setIfInBounds_toArray, List.set_cons_zero, List.set_cons_succ, List.getElem_toArray, List.getElem_cons_zero, List.getElem_cons_succ]
          refine' wpAnyH_take (i := 20) (v := _) rfl (by kernel_rfl) (by kernel_rfl) (by kernel_rfl) (fun _ _ _ h => h) (Or.inl ⟨by rfl, ?ly642⟩) (by assumption) ?lrest642
          case ly642 =>
            intro w hSw
            unfold S14 at hSw
            go_simp
            try with_reducible rfl
          try simp only [Act.put, List.setIfInBounds_toArray, List.set_cons_zero, List.set_cons_succ, List.getElem_toArray, List.getElem_cons_zero, List.getElem_cons_succ]
          refine' wpAnyH_take (i := 21) (v := _) rfl (by kernel_rfl) (by kernel_rfl) (by kernel_rfl) (fun _ _ _ h => h) (Or.inl ⟨by rfl, ?ly643⟩) (by assumption) ?lrest643
          case ly643 =>
            intro w hSw
            unfold S14 at hSw
            go_simp
            try with_reducible rfl
          try simp only [Act.put, List.setIfInBounds_toArray, List.set_cons_zero, List.set_cons_succ, List.getElem_toArray, List.getElem_cons_zero, List.getElem_cons_succ]
          refine' wpAnyH_take (i := 22) (v := _) rfl (by kernel_rfl) (by kernel_rfl) (by kernel_rfl) (fun _ _ _ h => h) (Or.inl ⟨by rfl, ?ly644⟩) (by assumption) ?lrest644
          case ly644 =>
            intro w hSw
            unfold S14 at hSw
            go_simp
            try with_reducible rfl
          try simp only [Act.put, List.setIfInBounds_toArray, List.set_cons_zero, List.set_cons_succ, List.getElem_toArray, List.getElem_cons_zero, List.getElem_cons_succ]
          refine' wpAnyH_take (i := 23) (v := _) rfl (by kernel_rfl) (by kernel_rfl) (by kernel_rfl) (fun _ _ _ h => h) (Or.inl ⟨by rfl, ?ly645⟩) (by assumption) ?lrest645
          case ly645 =>
            intro w hSw
            unfold S14 at hSw
            go_simp
            try with_reducible rfl
          try simp only [Act.put, List.setIfInBounds_toArray, List.set_cons_zero, List.set_cons_succ, List.getElem_toArray, List.getElem_cons_zero, List.getElem_cons_succ]
          refine wpAnyH_ready (rs := [24]) (by kernel_rfl) (by simp) ?_
          refine AllReadyH.cons rfl (fun K hK => ?_) AllReadyH.nil
          go_simp
          refine (HWK.out _ hk.bel).mono ?_
          rintro r9 w9 ⟨rfl, gq⟩
          have hk := hk.step gq
          refine hK.out _ _ hk.S (fun hHeld => ?_)
          clear hK K
          try simp only [Act.put, List.setIfInBounds_toArray, List.set_cons_zero, List.set_cons_succ, List.getElem_toArray, List.getElem_cons_zero, List.getElem_cons_succ]
          refine' wpAnyH_take (i := 25) (v := _) rfl (by kernel_rfl) (by kernel_rfl) (by kernel_rfl) (fun _ _ _ h => h) (Or.inl ⟨by rfl, ?ly647⟩) (by assumption) ?lrest647
          case ly647 =>
            intro w hSw
            unfold S14 at hSw
            go_simp
            try with_reducible rfl
          try simp only [Act.put, List.setIfInBounds_toArray, List.set_cons_zero, List.set_cons_succ, List.getElem_toArray, List.getElem_cons_zero, List.getElem_cons_succ]
          refine' wpAnyH_take (i := 26) (v := _) rfl (by kernel_rfl) (by kernel_rfl) (by kernel_rfl) (fun _ _ _ h => h) (Or.inl ⟨by rfl, ?ly648⟩) (by assumption) ?lrest648
          case ly648 =>
            intro w hSw
            unfold S14 at hSw
            go_simp
            try with_reducible rfl
          try simp only [Act.put, List.setIfInBounds_toArray, List.set_cons_zero, List.set_cons_succ, List.getElem_toArray, List.getElem_cons_zero, List.getElem_cons_succ]
          refine wpAnyH_done (by kernel_rfl) ?_ _
          go_wp2_with fail
          go_ret
          exact ⟨rfl, hk.bel⟩
      · subst dj
        have z2 : ((al : Int) == (bl : Int)) = false := by simp; omega
        clear dk
        cases L1 with
        | false =>
          cases L2 with
          | false => exact absurd hls (by decide)
          | true =>
            clear hls
            refine wp_region_held_drew (S := S14 true w.heap.size (w.heap.size + 1) q r ah al ah bl r2 q3 r2 r3 NN) (by kernel_rfl) hk.S (fun hHeld => ?_)
            refine' wpAnyH_take (i := 0) (v := _) rfl (by kernel_rfl) (by kernel_rfl) (by kernel_rfl) (fun _ _ _ h => h) (Or.inl ⟨by rfl, ?ly649⟩) (by assumption) ?lrest649
            case ly649 =>
              intro w hSw
              unfold S14 at hSw
              go_simp
              try with_reducible rfl
            try simp only [Act.put, List.setIfInBounds_toArray, List.set_cons_zero, List.set_cons_succ, List.getElem_toArray, List.getElem_cons_zero, List.getElem_cons_succ]
            refine' wpAnyH_take (i := 1) (v := _) rfl (by kernel_rfl) (by kernel_rfl) (by kernel_rfl) (fun _ _ _ h => h) (Or.inl ⟨by rfl, ?ly650⟩) (by assumption) ?lrest650
            case ly650 =>
              intro w hSw
              unfold S14 at hSw
              go_simp
              try with_reducible rfl
            try simp only [Act.put, List.setIfInBounds_toArray, List.set_cons_zero, List.set_cons_succ, List.getElem_toArray, List.getElem_cons_zero, List.getElem_cons_succ]
            refine' wpAnyH_take (i := 3) (v := _) rfl (by kernel_rfl) (by kernel_rfl) (by kernel_rfl) (fun _ _ _ h => h) (Or.inl ⟨by rfl, ?ly651⟩) (by assumption) ?lrest651
            case ly651 =>
              intro w hSw
              unfold S14 at hSw
              go_simp
              try with_reducible rfl
            try simp only [Act.put, List.setIfInBounds_toArray, List.set_cons_zero, List.set_cons_succ, List.getElem_toArray, List.getElem_cons_zero, List.getElem_cons_succ]
            refine' wpAnyH_take (i := 4) (v := _) rfl (by kernel_rfl) (by kernel_rfl) (by kernel_rfl) (fun _ _ _ h => h) (Or.inl ⟨by rfl, ?ly652⟩) (by assumption) ?lrest652
            case ly652 =>
              intro w hSw
              unfold S14 at hSw
              go_simp
              try with_reducible rfl
            try simp only [Act.put, List.setIfInBounds_toArray, List.set_cons_zero, List.set_cons_succ, List.getElem_toArray, List.getElem_cons_zero, List.getElem_cons_succ]
            refine' wpAnyH_take (i := 5) (v := _) rfl (by kernel_rfl) (by kernel_rfl) (by kernel_rfl) (fun _ _ _ h => h) (Or.inl ⟨by rfl, ?ly653⟩) (by assumption) ?lrest653
            case ly653 =>
              intro w hSw
              unfold S14 at hSw
              go_simp
              try with_reducible rfl
            try simp only [Act.put, List.setIfInBounds_toArray, List.set_cons_zero, List.set_cons_succ, List.getElem_toArray, List.getElem_cons_zero, List.getElem_cons_succ]
            refine wpAnyH_ready (rs := [2]) (by kernel_rfl) (by simp) ?_
            refine AllReadyH.cons rfl (fun K hK => ?_) AllReadyH.nil
            go_simp
            refine (HG3.out _).mono ?_
            rintro r9 w9 ⟨rfl, gq⟩
            have hk := hk.step gq
            refine hK.out _ _ hk.S (fun hHeld => ?_)
            clear hK K
            try simp only [Act.put, List.setIfInBounds_toArray, List.set_cons_zero, List.set_cons_succ, List.getElem_toArray, List.getElem_cons_zero, List.getElem_cons_succ]
            refine' wpAnyH_take (i := 6) (v := _) rfl (by kernel_rfl) (by kernel_rfl) (by kernel_rfl) (fun _ _ _ h => h) (Or.inl ⟨by rfl, ?ly655⟩) (by assumption) ?lrest655
            case ly655 =>
              intro w hSw
              unfold S14 at hSw
              go_simp
              try with_reducible rfl
            try simp only [Act.put, List.setIfInBounds_toArray, List.set_cons_zero, List.set_cons_succ, List.getElem_toArray, List.getElem_cons_zero, List.getElem_cons_succ]
            refine' wpAnyH_take (i := 7) (v := _) rfl (by kernel_rfl) (by kernel_rfl) (by kernel_rfl) (fun _ _ _ h => h) (Or.inl ⟨by rfl, ?ly656⟩) (by assumption) ?lrest656
            case ly656 =>
              intro w hSw
              unfold S14 at hSw
              go_simp
              try with_reducible rfl
            try simp only [Act.put, List.setIfInBounds_toArray, List.set_cons_zero, List.set_cons_succ, List.getElem_toArray, List.getElem_cons_zero, List.getElem_cons_succ]
            refine' wpAnyH_take (i := 8) (v := _) rfl (by kernel_rfl) (by kernel_rfl) (by kernel_rfl) (fun _ _ _ h => h) (Or.inl ⟨by rfl, ?ly657⟩) (by assumption) ?lrest657
            case ly657 =>
              intro w hSw
              unfold S14 at hSw
              go_simp
              try with_reducible rfl
            try simp only [Act.put, List.setIfInBounds_toArray, List.set_cons_zero, List.set_cons_succ, List.getElem_toArray, List.getElem_cons_zero, List.getElem_cons_succ]
            refine' wpAnyH_take (i := 9) (v := _) rfl (by kernel_rfl) (by kernel_rfl) (by kernel_rfl) (fun _ _ _ h => h) (Or.inl ⟨by rfl, ?ly658⟩) (by assumption) ?lrest658
            case ly658 =>
              intro w hSw
              unfold S14 at hSw
              go_simp
              try with_reducible rfl
            try simp only [Act.put, List.setIfInBounds_toArray, List.set_cons_zero, List.set_cons_succ, List.getElem_toArray, List.getElem_cons_zero, List.getElem_cons_succ]
            refine' wpAnyH_take (i := 10) (v := _) rfl (by kernel_rfl) (by kernel_rfl) (by kernel_rfl) (fun _ _ _ h => h) (Or.inl ⟨by rfl, ?ly659⟩) (by assumption) ?lrest659
            case ly659 =>
              intro w hSw
              unfold S14 at hSw
              go_simp
              try with_reducible rfl
            try simp only [Act.put, List.setIfInBounds_toArray, List.set_cons_zero, List.set_cons_succ, List.getElem_toArray, List.getElem_cons_zero, List.getElem_cons_succ]
            refine' wpAnyH_take (i := 11) (v := _) rfl (by kernel_rfl) (by kernel_rfl) (by kernel_rfl) (fun _ _ _ h => h) (Or.inl ⟨by rfl, ?ly660⟩) (by assumption) ?lrest660
            case ly660 =>
              intro w hSw
              unfold S14 at hSw
              go_simp
              try with_reducible rfl
            try simp only [Act.put, List.setIfInBounds_toArray, List.set_cons_zero, List.set_cons_succ, List.getElem_toArray, List.getElem_cons_zero, List.getElem_cons_succ]
            refine' wpAnyH_take (i := 12) (v := _) rfl (by kernel_rfl) (by kernel_rfl) (by kernel_rfl) (fun _ _ _ h => h) (Or.inl ⟨by rfl, ?ly661⟩) (by assumption) ?lrest661
            case ly661 =>
              intro w hSw
              unfold S14 at hSw
              go_simp
              try with_reducible rfl
            try simp only [Act.put, List.setIfInBounds_toArray, List.set_cons_zero, List.set_cons_succ, List.getElem_toArray, List.getElem_cons_zero, List.getElem_cons_succ]
            refine wpAnyH_ready (rs := [13]) (by kernel_rfl) (by simp) ?_
            refine AllReadyH.cons rfl (fun K hK => ?_) AllReadyH.nil
            go_simp
            refine (HL1.out _).mono ?_
            rintro r9 w9 ⟨rfl, gq⟩
            have hk := hk.step gq
            refine hK.out _ _ hk.S (fun hHeld => ?_)
            clear hK K
            try simp only [Act.put, List.setIfInBounds_toArray, List.set_cons_zero, List.set_cons_succ, List.getElem_toArray, List.getElem_cons_zero, List.getElem_cons_succ]
            refine' wpAnyH_take (i := 14) (v := _) rfl (by kernel_rfl) (by kernel_rfl) (by kernel_rfl) (fun _ _ _ h => h) (Or.inl ⟨by rfl, ?ly663⟩) (by assumption) ?lrest663
            case ly663 =>
              intro w hSw
              unfold S14 at hSw
              go_simp
              try with_reducible rfl
            try simp only [Act.put, List.setIfInBounds_toArray, List.set_cons_zero, List.set_cons_succ, List.getElem_toArray, List.getElem_cons_zero, List.getElem_cons_succ]
            refine' wpAnyH_take (i := 15) (v := _) rfl (by kernel_rfl) (by kernel_rfl) (by kernel_rfl) (fun _ _ _ h => h) (Or.inl ⟨by rfl, ?ly664⟩) (by assumption) ?lrest664
            case ly664 =>
              intro w hSw
              unfold S14 at hSw
              go_simp
              try with_reducible rfl
            try simp only [Act.put, List.setIfInBounds_toArray, List.set_cons_zero, List.set_cons_succ, List.getElem_toArray, List.getElem_cons_zero, List.getElem_cons_succ]
            refine' wpAnyH_take (i := 16) (v := _) rfl (by kernel_rfl) (by kernel_rfl) (by kernel_rfl) (fun _ _ _ h => h) (Or.inl ⟨by rfl, ?ly665⟩) (by assumption) ?lrest665
            case ly665 =>
              intro w hSw
              unfold S14 at hSw
              go_simp
              try with_reducible rfl
            try simp only [Act.put, List.setIfInBounds_toArray, List.set_cons_zero, List.set_cons_succ, List.getElem_toArray, List.getElem_cons_zero, List.getElem_cons_succ]
            refine' wpAnyH_take (i := 17) (v := _) rfl (by kernel_rfl) (by kernel_rfl) (by kernel_rfl) (fun _ _ _ h => h) (Or.inl ⟨by rfl, ?ly666⟩) (by assumption) ?lrest666
            case ly666 =>
              intro w hSw
              unfold S14 at hSw
              go_simp
              try with_reducible rfl
            try simp only [Act.put, List.setIfInBounds_toArray, List.set_cons_zero, List.set_cons_succ, List.getElem_toArray, List.getElem_cons_zero, List.getElem_cons_succ]
            refine wpAnyH_ready (rs := [18]) (by kernel_rfl) (by simp) ?_
            refine AllReadyH.cons rfl (fun K hK => ?_) AllReadyH.nil
            go_simp
            refine (HL2.out _).mono ?_
            rintro r9 w9 ⟨rfl, gq⟩
            have hk := hk.step gq
            refine hK.out _ _ hk.S (fun hHeld => ?_)
            clear hK K
            try simp only [Act.put, List.setIfInBounds_toArray, List.set_cons_zero, List.set_cons_succ, List.getElem_toArray, List.getElem_cons_zero, List.getElem_cons_succ]
            refine' wpAnyH_take (i := 19) (v := _) rfl (by kernel_rfl) (by kernel_rfl) (by kernel_rfl) (fun _ _ _ h => h) (Or.inl ⟨by rfl, ?ly668⟩) (by assumption) ?lrest668
            case ly668 =>
              intro w hSw
              unfold S14 at hSw
              go_simp
              try with_reducible rfl
            try simp only [Act.put, List.setIfInBounds_toArray, List.set_cons_zero, List.set_cons_succ, List.getElem_toArray, List.getElem_cons_zero, List.getElem_cons_succ]
            refine' wpAnyH_take (i := 20) (v := _) rfl (by kernel_rfl) (by kernel_rfl) (by kernel_rfl) (fun _ _ _ h => h) (Or.inl ⟨by rfl, ?ly669⟩) (by assumption) ?lrest669
            case ly669 =>
              intro w hSw
              unfold S14 at hSw
              go_simp
              try with_reducible rfl
            try simp only [Act.put, List.setIfInBounds_toArray, List.set_cons_zero, List.set_cons_succ, List.getElem_toArray, List.getElem_cons_zero, List.getElem_cons_succ]
            refine' wpAnyH_take (i := 21) (v := _) rfl (by kernel_rfl) (by kernel_rfl) (by kernel_rfl) (fun _ _ _ h => h) (Or.inl ⟨by rfl, ?ly670⟩) (by assumption) ?lrest670
            case ly670 =>
              intro w hSw
              unfold S14 at hSw
              go_simp
              try with_reducible rfl
            try simp only [Act.put, List.setIfInBounds_toArray, List.set_cons_zero, List.set_cons_succ, List.getElem_toArray, List.getElem_cons_zero, List.getElem_cons_succ]
            refine' wpAnyH_take (i := 22) (v := _) rfl (by kernel_rfl) (by kernel_rfl) (by kernel_rfl) (fun _ _ _ h => h) (Or.inl ⟨by rfl, ?ly671⟩) (by assumption) ?lrest671
            case ly671 =>
              intro w hSw
              unfold S14 at hSw
              go_simp
              try with_reducible rfl
            try simp only [Act.put, List.setIfInBounds_toArray, List.set_cons_zero, List.set_cons_succ, List.getElem_toArray, List.getElem_cons_zero, List.getElem_cons_succ]
            refine' wpAnyH_take (i := 23) (v := _) rfl (by kernel_rfl) (by kernel_rfl) (by kernel_rfl) (fun _ _ _ h => h) (Or.inl ⟨by rfl, ?ly672⟩) (by assumption) ?lrest672
            case ly672 =>
              intro w hSw
              unfold S14 at hSw
              go_simp
              try with_reducible rfl
            try simp only [Act.put, List.setIfInBounds_toArray, List.set_cons_zero, List.set_cons_succ, List.getElem_toArray, List.getElem_cons_zero, List.getElem_cons_succ]
            refine wpAnyH_ready (rs := [24]) (by kernel_rfl) (by simp) ?_
            refine AllReadyH.cons rfl (fun K hK => ?_) AllReadyH.nil
            go_simp
            refine (HWK.out _ hk.bel).mono ?_
            rintro r9 w9 ⟨rfl, gq⟩
            have hk := hk.step gq
            refine hK.out _ _ hk.S (fun hHeld => ?_)
            clear hK K
            try simp only [Act.put, List.setIfInBounds_toArray, List.set_cons_zero, List.set_cons_succ, List.getElem_toArray, List.getElem_cons_zero, List.getElem_cons_succ]
            refine' wpAnyH_take (i := 25) (v := _) rfl (by kernel_rfl) (by kernel_rfl) (by kernel_rfl) (fun _ _ _ h => h) (Or.inl ⟨by rfl, ?ly674⟩) (by assumption) ?lrest674
            case ly674 =>
              intro w hSw
              unfold S14 at hSw
              go_simp
              try with_reducible rfl
            try simp only [Act.put, List.setIfInBounds_toArray, List.set_cons_zero, List.set_cons_succ, List.getElem_toArray, List.getElem_cons_zero, List.getElem_cons_succ]
            refine' wpAnyH_take (i := 26) (v := _) rfl (by kernel_rfl) (by kernel_rfl) (by kernel_rfl) (fun _ _ _ h => h) (Or.inl ⟨by rfl, ?ly675⟩) (by assumption) ?lrest675
            case ly675 =>
              intro w hSw
              unfold S14 at hSw
              go_simp
              try with_reducible rfl
            try simp only [Act.put, List.setIfInBounds_toArray, List.set_cons_zero, List.set_cons_succ, List.getElem_toArray, List.getElem_cons_zero, List.getElem_cons_succ]
            refine wpAnyH_done (by kernel_rfl) ?_ _
            go_wp2_with fail
            go_ret
            exact ⟨rfl, hk.bel⟩
        | true =>
          clear hls
          refine wp_region_held_drew (S := S14 true w.heap.size (w.heap.size + 1) q r ah al ah bl r2 q3 r2 r3 NN) (by kernel_rfl) hk.S (fun hHeld => ?_)
          refine' wpAnyH_take (i := 0) (v := _) rfl (by kernel_rfl) (by kernel_rfl) (by kernel_rfl) (fun _ _ _ h => h) (Or.inl ⟨by rfl, ?ly676⟩) (by assumption) ?lrest676
          case ly676 =>
            intro w hSw
            unfold S14 at hSw
            go_simp
            try with_reducible rfl
          try simp only [Act.put, List.setIfInBounds_toArray, List.set_cons_zero, List.set_cons_succ, List.getElem_toArray, List.getElem_cons_zero, List.getElem_cons_succ]
          refine' wpAnyH_take (i := 1) (v := _) rfl (by kernel_rfl) (by kernel_rfl) (by kernel_rfl) (fun _ _ _ h => h) (Or.inl ⟨by rfl, ?ly677⟩) (by assumption) ?lrest677
          case ly677 =>
            intro w hSw
            unfold S14 at hSw
            go_simp
            try with_reducible rfl
          try simp only [Act.put, List.setIfInBounds_toArray, List.set_cons_zero, List.set_cons_succ, List.getElem_toArray, List.getElem_cons_zero, List.getElem_cons_succ]
          refine' wpAnyH_take (i := 3) (v := _) rfl (by kernel_rfl) (by kernel_rfl) (by kernel_rfl) (fun _ _ _ h => h) (Or.inl ⟨by rfl, ?ly678⟩) (by assumption) ?lrest678
          case ly678 =>
            intro w hSw
            unfold S14 at hSw
            go_simp
            try with_reducible rfl
          try simp only [Act.put, List.setIfInBounds_toArray, List.set_cons_zero, List.set_cons_succ, List.getElem_toArray, List.getElem_cons_zero, List.getElem_cons_succ]
          refine' wpAnyH_take (i := 4) (v := _) rfl (by kernel_rfl) (by kernel_rfl) (by kernel_rfl) (fun _ _ _ h => h) (Or.inl ⟨by rfl, ?ly679⟩) (by assumption) ?lrest679
          case ly679 =>
            intro w hSw
            unfold S14 at hSw
            go_simp
            try with_reducible rfl
          try simp only [Act.put, List.setIfInBounds_toArray, List.set_cons_zero, List.set_cons_succ, List.getElem_toArray, List.getElem_cons_zero, List.getElem_cons_succ]
          refine' wpAnyH_take (i := 5) (v := _) rfl (by kernel_rfl) (by kernel_rfl) (by kernel_rfl) (fun _ _ _ h => h) (Or.inl ⟨by rfl, ?ly680⟩) (by assumption) ?lrest680
          case ly680 =>
            intro w hSw
            unfold S14 at hSw
            go_simp
            try with_reducible rfl
          try simp only [Act.put, List.setIfInBounds_toArray, List.set_cons_zero, List.set_cons_succ, List.getElem_toArray, List.getElem_cons_zero, List.getElem_cons_succ]
          refine wpAnyH_ready (rs := [2]) (by kernel_rfl) (by simp) ?_
          refine AllReadyH.cons rfl (fun K hK => ?_) AllReadyH.nil
          go_simp
          refine (HG3.out _).mono ?_
          rintro r9 w9 ⟨rfl, gq⟩
          have hk := hk.step gq
          refine hK.out _ _ hk.S (fun hHeld => ?_)
          clear hK K
          try simp only [Act.put, List.setIfInBounds_toArray, List.set_cons_zero, List.set_cons_succ, List.getElem_toArray, List.getElem_cons_zero, List.getElem_cons_succ]
          refine' wpAnyH_take (i := 6) (v := _) rfl (by kernel_rfl) (by kernel_rfl) (by kernel_rfl) (fun _ _ _ h => h) (Or.inl ⟨by rfl, ?ly682⟩) (by assumption) ?lrest682
          case ly682 =>
            intro w hSw
            unfold S14 at hSw
            go_simp
            try with_reducible rfl
          try simp only [Act.put, List.setIfInBounds_toArray, List.set_cons_zero, List.set_cons_succ, List.getElem_toArray, List.getElem_cons_zero, List.getElem_cons_succ]
          refine' wpAnyH_take (i := 7) (v := _) rfl (by kernel_rfl) (by kernel_rfl) (by kernel_rfl) (fun _ _ _ h => h) (Or.inl ⟨by rfl, ?ly683⟩) (by assumption) ?lrest683
          case ly683 =>
            intro w hSw
            unfold S14 at hSw
            go_simp
            try with_reducible rfl
          try simp only [Act.put, List.setIfInBounds_toArray, List.set_cons_zero, List.set_cons_succ, List.getElem_toArray, List.getElem_cons_zero, List.getElem_cons_succ]
          refine' wpAnyH_take (i := 8) (v := _) rfl (by kernel_rfl) (by kernel_rfl) (by kernel_rfl) (fun _ _ _ h => h) (Or.inl ⟨by rfl, ?ly684⟩) (by assumption) ?lrest684
          case ly684 =>
            intro w hSw
            unfold S14 at hSw
            go_simp
            try with_reducible rfl
          try simp only [Act.put, List.setIfInBounds_toArray, List.set_cons_zero, List.set_cons_succ, List.getElem_toArray, List.getElem_cons_zero, List.getElem_cons_succ]
          refine' wpAnyH_take (i := 9) (v := _) rfl (by kernel_rfl) (by kernel_rfl) (by kernel_rfl) (fun _ _ _ h => h) (Or.inl ⟨by rfl, ?ly685⟩) (by assumption) ?lrest685
          case ly685 =>
            intro w hSw
            unfold S14 at hSw
            go_simp
            try with_reducible rfl
          try simp only [Act.put, List.setIfInBounds_toArray, List.set_cons_zero, List.set_cons_succ, List.getElem_toArray, List.getElem_cons_zero, List.getElem_cons_succ]
          refine' wpAnyH_take (i := 10) (v := _) rfl (by kernel_rfl) (by kernel_rfl) (by kernel_rfl) (fun _ _ _ h => h) (Or.inl ⟨by rfl, ?ly686⟩) (by assumption) ?lrest686
          case ly686 =>
            intro w hSw
            unfold S14 at hSw
            go_simp
            try with_reducible rfl
          try simp only [Act.put, List.setIfInBounds_toArray, List.set_cons_zero, List.set_cons_succ, List.getElem_toArray, List.getElem_cons_zero, List.getElem_cons_succ]
          refine' wpAnyH_take (i := 11) (v := _) rfl (by kernel_rfl) (by kernel_rfl) (by kernel_rfl) (fun _ _ _ h => h) (Or.inl ⟨by rfl, ?ly687⟩) (by assumption) ?lrest687
          case ly687 =>
            intro w hSw
            unfold S14 at hSw
            go_simp
            try with_reducible rfl
          try simp only [Act.put, List.setIfInBounds_toArray, List.set_cons_zero, List.set_cons_succ, List.getElem_toArray, List.getElem_cons_zero, List.getElem_cons_succ]
          refine' wpAnyH_take (i := 12) (v := _) rfl (by kernel_rfl) (by kernel_rfl) (by kernel_rfl) (fun _ _ _ h => h) (Or.inl ⟨by rfl, ?ly688⟩) (by assumption) ?lrest688
          case ly688 =>
            intro w hSw
            unfold S14 at hSw
            go_simp
            try with_reducible rfl
          try simp only [Act.put, List.setIfInBounds_toArray, List.set_cons_zero, List.set_cons_succ, List.getElem_toArray, List.getElem_cons_zero, List.getElem_cons_succ]
          refine wpAnyH_ready (rs := [13]) (by kernel_rfl) (by simp) ?_
          refine AllReadyH.cons rfl (fun K hK => ?_) AllReadyH.nil
          go_simp
          refine (HL1.out _).mono ?_
          rintro r9 w9 ⟨rfl, gq⟩
          have hk := hk.step gq
          refine hK.out _ _ hk.S (fun hHeld => ?_)
          clear hK K
          try simp only [Act.put, List.setIfInBounds_toArray, List.set_cons_zero, List.set_cons_succ, List.getElem_toArray, List.getElem_cons_zero, List.getElem_cons_succ]
          refine' wpAnyH_take (i := 14) (v := _) rfl (by kernel_rfl) (by kernel_rfl) (by kernel_rfl) (fun _ _ _ h => h) (Or.inl ⟨by rfl, ?ly690⟩) (by assumption) ?lrest690
          case ly690 =>
            intro w hSw
            unfold S14 at hSw
            go_simp
            try with_reducible rfl
          try simp only [Act.put, List.setIfInBounds_toArray, List.set_cons_zero, List.set_cons_succ, List.getElem_toArray, List.getElem_cons_zero, List.getElem_cons_succ]
          refine' wpAnyH_take (i := 15) (v := _) rfl (by kernel_rfl) (by kernel_rfl) (by kernel_rfl) (fun _ _ _ h => h) (Or.inl ⟨by rfl, ?ly691⟩) (by assumption) ?lrest691
          case ly691 =>
            intro w hSw
            unfold S14 at hSw
            go_simp
            try with_reducible rfl
          try simp only [Act.put, List.setIfInBounds_toArray, List.set_cons_zero, List.set_cons_succ, List.getElem_toArray, List.getElem_cons_zero, List.getElem_cons_succ]
          refine' wpAnyH_take (i := 16) (v := undef) rfl (by kernel_rfl) (by kernel_rfl) (by kernel_rfl) (fun _ _ _ h => h) (Or.inr ⟨by rfl, rfl⟩) (by assumption) ?lrest692
          try simp only [Act.put, List.setIfInBounds_toArray, List.set_cons_zero, List.set_cons_succ, List.getElem_toArray, List.getElem_cons_zero, List.getElem_cons_succ]
          refine' wpAnyH_take (i := 17) (v := undef) rfl (by kernel_rfl) (by kernel_rfl) (by kernel_rfl) (fun _ _ _ h => h) (Or.inr ⟨by rfl, rfl⟩) (by assumption) ?lrest693
          try simp only [Act.put, List.setIfInBounds_toArray, List.set_cons_zero, List.set_cons_succ, List.getElem_toArray, List.getElem_cons_zero, List.getElem_cons_succ]
          refine' wpAnyH_take (i := 18) (v := undef) rfl (by kernel_rfl) (by kernel_rfl) (by kernel_rfl) (fun _ _ _ h => h) (Or.inr ⟨by rfl, rfl⟩) (by assumption) ?lrest694
          try simp only [Act.put, List.setIfInBounds_toArray, List.set_cons_zero, List.set_cons_succ, List.getElem_toArray, List.getElem_cons_zero, List.getElem_cons_succ]
          refine' wpAnyH_take (i := 19) (v := undef) rfl (by kernel_rfl) (by kernel_rfl) (by kernel_rfl) (fun _ _ _ h => h) (Or.inr ⟨by rfl, rfl⟩) (by assumption) ?lrest695
          try simp only [Act.put, List.setIfInBounds_toArray, List.set_cons_zero, List.set_cons_succ, List.getElem_toArray, List.getElem_cons_zero, List.getElem_cons_succ]
          refine' wpAnyH_take (i := 20) (v := _) rfl (by kernel_rfl) (by kernel_rfl) (by kernel_rfl) (fun _ _ _ h => h) (Or.inl ⟨by rfl, ?ly696⟩) (by assumption) ?lrest696
          case ly696 =>
            intro w hSw
            unfold S14 at hSw
            go_simp
            try with_reducible rfl
          try simp only [Act.put, List.setIfInBounds_toArray, List.set_cons_zero, List.set_cons_succ, List.getElem_toArray, List.getElem_cons_zero, List.getElem_cons_succ]
          refine' wpAnyH_take (i := 21) (v := _) rfl (by kernel_rfl) (by kernel_rfl) (by kernel_rfl) (fun _ _ _ h => h) (Or.inl ⟨by rfl, ?ly697⟩) (by assumption) ?lrest697
          case ly697 =>
            intro w hSw
            unfold S14 at hSw
            go_simp
            try with_reducible rfl
          try simp only [Act.put, List.setIfInBounds_toArray, List.set_cons_zero, List.set_cons_succ, List.getElem_toArray, List.getElem_cons_zero, List.getElem_cons_succ]
          refine' wpAnyH_take (i := 22) (v := _) rfl (by kernel_rfl) (by kernel_rfl) (by kernel_rfl) (fun _ _ _ h => h) (Or.inl ⟨by rfl, ?ly698⟩) (by assumption) ?lrest698
          case ly698 =>
            intro w hSw
            unfold S14 at hSw
            go_simp
            try with_reducible rfl
          try simp only [Act.put, List.setIfInBounds_toArray, List.set_cons_zero, List.set_cons_succ, List.getElem_toArray, List.getElem_cons_zero, List.getElem_cons_succ]
          refine' wpAnyH_take (i := 23) (v := _) rfl (by kernel_rfl) (by kernel_rfl) (by kernel_rfl) (fun _ _ _ h => h) (Or.inl ⟨by rfl, ?ly699⟩) (by assumption) ?lrest699
          case ly699 =>
            intro w hSw
            unfold S14 at hSw
            go_simp
            try with_reducible rfl
          try simp only [Act.put, List.setIfInBounds_toArray, List.set_cons_zero, List.set_cons_succ, List.getElem_toArray, List.getElem_cons_zero, List.getElem_cons_succ]
          refine wpAnyH_ready (rs := [24]) (by kernel_rfl) (by simp) ?_
          refine AllReadyH.cons rfl (fun K hK => ?_) AllReadyH.nil
          go_simp
          refine (HWK.out _ hk.bel).mono ?_
          rintro r9 w9 ⟨rfl, gq⟩
          have hk := hk.step gq
          refine hK.out _ _ hk.S (fun hHeld => ?_)
          clear hK K
          try simp only [Act.put, List.setIfInBounds_toArray, List.set_cons_zero, List.set_cons_succ, List.getElem_toArray, List.getElem_cons_zero, List.getElem_cons_succ]
          refine' wpAnyH_take (i := 25) (v := _) rfl (by kernel_rfl) (by kernel_rfl) (by kernel_rfl) (fun _ _ _ h => h) (Or.inl ⟨by rfl, ?ly701⟩) (by assumption) ?lrest701
          case ly701 =>
            intro w hSw
            unfold S14 at hSw
            go_simp
            try with_reducible rfl
          try simp only [Act.put, List.setIfInBounds_toArray, List.set_cons_zero, List.set_cons_succ, List.getElem_toArray, List.getElem_cons_zero, List.getElem_cons_succ]
          refine' wpAnyH_take (i := 26) (v := _) rfl (by kernel_rfl) (by kernel_rfl) (by kernel_rfl) (fun _ _ _ h => h) (Or.inl ⟨by rfl, ?ly702⟩) (by assumption) ?lrest702
          case ly702 =>
            intro w hSw
            unfold S14 at hSw
            go_simp
            try with_reducible rfl
          try simp only [Act.put, List.setIfInBounds_toArray, List.set_cons_zero, List.set_cons_succ, List.getElem_toArray, List.getElem_cons_zero, List.getElem_cons_succ]
          refine wpAnyH_done (by kernel_rfl) ?_ _
          go_wp2_with fail
          go_ret
          exact ⟨rfl, hk.bel⟩
end Go.Proofs.YtomndcjgdfhmbaaGreatDoor
