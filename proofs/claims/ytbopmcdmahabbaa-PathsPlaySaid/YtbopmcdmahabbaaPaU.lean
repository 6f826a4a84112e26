/- alive. -/
import Derived.Test.YtbopmcdmahabbaaPaT
import Derived.Deep.RegionHeld3
namespace Go.Proofs.Ytbopmcdmahabbaa
open Go.RowKit

set_option maxHeartbeats 4000000 in
set_option maxRecDepth 100000 in
theorem alive_any (w : World) : Calls Try.prog 8 #[] w fun r w' => r = .returned (.bool true) ∧ Below w.heap.size w w' := by
  go_enter Try.func8, Try.ntmps8
  go_wp2_with fail
  go_at_call 7
  refine (a_new w).mono ?_
  rintro r w0 ⟨rfl, l0, b0⟩
  go_wp2_with fail
  go_at_call 10
  refine (aE1 w0).mono ?_
  rintro r w1 ⟨rfl, d0⟩
  have l1 := l0.below d0
  have b1 := b0.trans (d0.mono l0.size)
  go_wp2_with fail
  go_at_call 9
  refine (a_add1 l1).mono ?_
  rintro r w2 ⟨rfl, l2, d1⟩
  have b2 := b1.trans d1
  go_wp2_with fail
  go_at_call 10
  refine (aE2 w2).mono ?_
  rintro r w3 ⟨rfl, d2⟩
  have l3 := l2.below d2
  have b3 := b2.trans (d2.mono l2.size)
  go_wp2_with fail
  go_at_call 9
  refine (a_add2 l3).mono ?_
  rintro r w4 ⟨rfl, l4, d3⟩
  have b4 := b3.trans d3
  go_wp2_with fail
  go_at_call 10
  refine (aE1 w4).mono ?_
  rintro r w5 ⟨rfl, d4⟩
  have l5 := l4.below d4
  have b5 := b4.trans (d4.mono l4.size)
  go_wp2_with fail
  go_at_call 9
  refine (a_add3 l5).mono ?_
  rintro r w6 ⟨rfl, l6, d5⟩
  have b6 := b5.trans d5
  go_wp2_with fail
  go_at_call 10
  refine (aE3 w6).mono ?_
  rintro r w7 ⟨rfl, d6⟩
  have l7 := l6.below d6
  have b7 := b6.trans (d6.mono l6.size)
  go_wp2_with fail
  go_at_call 9
  refine (a_add4 l7).mono ?_
  rintro r w8 ⟨rfl, l8, d7⟩
  have b8 := b7.trans d7
  go_wp2_with fail
  go_at_call 15
  refine (a_best0 l8).mono ?_
  rintro r w9 ⟨rfl, l9, d8⟩
  have b9 := b8.trans d8
  go_wp2_with fail
  have l10 := l9.below ((Below.refl w9.heap.size w9).alloc (Nat.le_refl _) (.cells #[.bool false, .int .u64 0, .int .u64 0, .int .u16 0] 35))
  have b10 := b9.trans (((Below.refl w9.heap.size w9).alloc (Nat.le_refl _) (.cells #[.bool false, .int .u64 0, .int .u64 0, .int .u16 0] 35)).mono l9.size)
  have z10 := Blk.new w9 35 #[.bool false, .int .u64 0, .int .u64 0, .int .u16 0]
  generalize w9.alloc (.cells #[.bool false, .int .u64 0, .int .u64 0, .int .u16 0] 35) = w10 at l10 b10 z10 ⊢
  go_wp2_with fail
  go_at_call 12
  refine (aT1 w10).mono ?_
  rintro r w11 ⟨rfl, d10⟩
  have l11 := l10.below d10
  have b11 := b10.trans (d10.mono l10.size)
  go_wp2_with fail
  go_at_call 10
  refine (aE1 w11).mono ?_
  rintro r w12 ⟨rfl, d11⟩
  have l12 := l11.below d11
  have b12 := b11.trans (d11.mono l11.size)
  go_wp2_with fail
  go_at_call 11
  refine (a_sent1 l12).mono ?_
  rintro r w13 ⟨rfl, l13, d12⟩
  have b13 := b12.trans d12
  go_wp2_with fail
  go_at_call 12
  refine (aT1 w13).mono ?_
  rintro r w14 ⟨rfl, d13⟩
  have l14 := l13.below d13
  have b14 := b13.trans (d13.mono l13.size)
  go_wp2_with fail
  go_at_call 10
  refine (aE2 w14).mono ?_
  rintro r w15 ⟨rfl, d14⟩
  have l15 := l14.below d14
  have b15 := b14.trans (d14.mono l14.size)
  go_wp2_with fail
  go_at_call 13
  refine (a_pong1 l15).mono ?_
  rintro r w16 ⟨rfl, l16, d15⟩
  have b16 := b15.trans d15
  go_wp2_with fail
  go_at_call 12
  refine (aT1 w16).mono ?_
  rintro r w17 ⟨rfl, d16⟩
  have l17 := l16.below d16
  have b17 := b16.trans (d16.mono l16.size)
  go_wp2_with fail
  go_at_call 10
  refine (aE1 w17).mono ?_
  rintro r w18 ⟨rfl, d17⟩
  have l18 := l17.below d17
  have b18 := b17.trans (d17.mono l17.size)
  go_wp2_with fail
  go_at_call 13
  refine (a_pong2 l18).mono ?_
  rintro r w19 ⟨rfl, l19, d18⟩
  have b19 := b18.trans d18
  go_wp2_with fail
  go_at_call 10
  refine (aE1 w19).mono ?_
  rintro r w20 ⟨rfl, d19⟩
  have l20 := l19.below d19
  have b20 := b19.trans (d19.mono l19.size)
  go_wp2_with fail
  go_at_call 17
  refine (a_score l20).mono ?_
  rintro r w21 ⟨rfl, l21, d20⟩
  have b21 := b20.trans d20
  go_wp2_with fail
  go_at_call 12
  refine (aT2 w21).mono ?_
  rintro r w22 ⟨rfl, d21⟩
  have l22 := l21.below d21
  have b22 := b21.trans (d21.mono l21.size)
  go_wp2_with fail
  go_at_call 10
  refine (aE1 w22).mono ?_
  rintro r w23 ⟨rfl, d22⟩
  have l23 := l22.below d22
  have b23 := b22.trans (d22.mono l22.size)
  go_wp2_with fail
  go_at_call 11
  refine (a_sent2 l23).mono ?_
  rintro r w24 ⟨rfl, l24, d23⟩
  have b24 := b23.trans d23
  go_wp2_with fail
  go_at_call 12
  refine (aT2 w24).mono ?_
  rintro r w25 ⟨rfl, d24⟩
  have l25 := l24.below d24
  have b25 := b24.trans (d24.mono l24.size)
  go_wp2_with fail
  go_at_call 10
  refine (aE1 w25).mono ?_
  rintro r w26 ⟨rfl, d25⟩
  have l26 := l25.below d25
  have b26 := b25.trans (d25.mono l25.size)
  go_wp2_with fail
  go_at_call 13
  refine (a_pong3 l26).mono ?_
  rintro r w27 ⟨rfl, l27, d26⟩
  have b27 := b26.trans d26
  go_wp2_with fail
  go_at_call 12
  refine (aT3 w27).mono ?_
  rintro r w28 ⟨rfl, d27⟩
  have l28 := l27.below d27
  have b28 := b27.trans (d27.mono l27.size)
  go_wp2_with fail
  go_at_call 10
  refine (aE2 w28).mono ?_
  rintro r w29 ⟨rfl, d28⟩
  have l29 := l28.below d28
  have b29 := b28.trans (d28.mono l28.size)
  go_wp2_with fail
  go_at_call 11
  refine (a_sent3 l29).mono ?_
  rintro r w30 ⟨rfl, l30, d29⟩
  have b30 := b29.trans d29
  go_wp2_with fail
  go_at_call 12
  refine (aT3 w30).mono ?_
  rintro r w31 ⟨rfl, d30⟩
  have l31 := l30.below d30
  have b31 := b30.trans (d30.mono l30.size)
  go_wp2_with fail
  go_at_call 10
  refine (aE2 w31).mono ?_
  rintro r w32 ⟨rfl, d31⟩
  have l32 := l31.below d31
  have b32 := b31.trans (d31.mono l31.size)
  go_wp2_with fail
  go_at_call 13
  refine (a_pong4 l32).mono ?_
  rintro r w33 ⟨rfl, l33, d32⟩
  have b33 := b32.trans d32
  go_wp2_with fail
  go_at_call 15
  refine (a_best18 l33).mono ?_
  rintro r w34 ⟨rfl, l34, d33⟩
  have b34 := b33.trans d33
  go_wp2_with fail
  have l35 := l34.below ((Below.refl w34.heap.size w34).alloc (Nat.le_refl _) (.cells #[.bool false, .int .u64 0, .int .u64 167772160, .int .u16 2] 35))
  have b35 := b34.trans (((Below.refl w34.heap.size w34).alloc (Nat.le_refl _) (.cells #[.bool false, .int .u64 0, .int .u64 167772160, .int .u16 2] 35)).mono l34.size)
  have z35 := Blk.new w34 35 #[.bool false, .int .u64 0, .int .u64 167772160, .int .u16 2]
  generalize w34.alloc (.cells #[.bool false, .int .u64 0, .int .u64 167772160, .int .u16 2] 35) = w35 at l35 b35 z35 ⊢
  have q1 := a_eq
  have q2 := a_four
  have hz := z35
  have hl := l35
  have hb := b35
  generalize hB : w34.heap.size = B at z35 hz ⊢
  generalize w35 = W at hz hl hb ⊢
  clear l1 b1 l2 b2 l3 b3 l4 b4 l5 b5 l6 b6 l7 b7 l8 b8 l9 b9 l10 b10 l11 b11 l12 b12 l13 b13 l14 b14 l15 b15 l16 b16 l17 b17 l18 b18 l19 b19 l20 b20 l21 b21 l22 b22 l23 b23 l24 b24 l25 b25 l26 b26 l27 b27 l28 b28 l29 b29 l30 b30 l31 b31 l32 b32 l33 b33 l34 b34 z35 l35 b35
  replace hz := hz.drew
  replace hl : Live w.heap.size (w.heap.size + 2) t9 W.drew := hl.drewN 1
  have y0 := hz.cell 0
  have y1 := hz.cell 1
  have y2 := hz.cell 2
  have y3 := hz.cell 3
  simp at y0 y1 y2 y3
  go_region_held3 (fun w' => w'.cell? ⟨B, 0, none⟩ = some (.bool false) ∧ w'.cell? ⟨B, 1, none⟩ = some (.int .u64 0) ∧ w'.cell? ⟨B, 2, none⟩ = some (.int .u64 167772160) ∧ w'.cell? ⟨B, 3, none⟩ = some (.int .u16 2))
    (first | exact ⟨y0, y1, y2, y3⟩ | exact ⟨p0, p1, p2, p3⟩ | exact ⟨v0, v1, v2, v3⟩ | go_keep)
    (first
      | (go_at_call 10; refine (aE2 W.drew).mono ?_; rintro r we ⟨rfl, de⟩; have he := hz.below de hz.lt; have p0 := he.cell 0; have p1 := he.cell 1; have p2 := he.cell 2; have p3 := he.cell 3; simp at p0 p1 p2 p3; have le := hl.below de)
      | (go_at_call 10; refine (aE2 wp).mono ?_; rintro r we ⟨rfl, de⟩; have he := hp.below de hp.lt; have p0 := he.cell 0; have p1 := he.cell 1; have p2 := he.cell 2; have p3 := he.cell 3; simp at p0 p1 p2 p3)
      | (go_at_call 18; refine (a_paths hl).mono ?_; rintro r wp ⟨⟨A, rfl⟩, dp⟩; have hp := hz.below dp hz.lt; have v0 := hp.cell 0; have v1 := hp.cell 1; have v2 := hp.cell 2; have v3 := hp.cell 3; simp at v0 v1 v2 v3)
      | (go_at_call 18; refine (a_paths le).mono ?_; rintro r wp ⟨⟨A, rfl⟩, dp⟩; have hp := he.below dp he.lt; have v0 := hp.cell 0; have v1 := hp.cell 1; have v2 := hp.cell 2; have v3 := hp.cell 3; simp at v0 v1 v2 v3))
  go_wp2_with fail
  go_ret
  have g1 : w.heap.size ≤ W.drew.heap.size := hb.size
  exact ⟨rfl, (hb.drew.trans (de.mono g1)).trans (dp.mono (Nat.le_trans g1 de.size))⟩

end Go.Proofs.Ytbopmcdmahabbaa
