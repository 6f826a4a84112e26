/- does: its walk. -/
import Derived.Test.YtbopmcdmahabbaaPdN
namespace Go.Proofs.Ytbopmcdmahabbaa
open Go.RowKit

/- What a step leaves: both tables go on side by side. -/
structure Goes (n b rb j : Nat) (w0 : World) (t0 t : Tab) (rt : RTab) (w : World) : Prop where
  duo : Duo n b rb w0 t rt w
  sync : Sync t rt
  inv : Inv j t
  rat : RAt rt
def Done (n b rb j : Nat) (w0 : World) (t0 : Tab) (r : Ending) (w' : World) : Prop := r = .returned (.bool true) ∧ ∃ t' rt', Goes n b rb j w0 t0 t' rt' w'

set_option maxHeartbeats 8000000 in
set_option maxRecDepth 100000 in
theorem does_any {n b rb j : Nat} {w0 w : World} {t0 t : Tab} {rt : RTab} (h : Goes n b rb j w0 t0 t rt w) (hj : j ≤ 500) (dO : Int) (tx en nw : Nat) (htx : tx < 256) (hen : en < 256) (hnw : nw < M64) :
    Calls Try.prog 20 #[ptr b, ptr rb, .agg #[.int .i64 dO, .int .u8 (tx : Int), .int .u8 (en : Int), .int .u64 (nw : Int)]] w (Done n b rb (j + 1) w0 t0) := by
  obtain ⟨D, hs, iv, ha⟩ := h
  have hB := Blk.new w 45 #[.int .i64 dO, .int .u8 (tx : Int), .int .u8 (en : Int), .int .u64 (nw : Int)]
  have D2 := D.below ((Below.refl w.heap.size w).alloc (Nat.le_refl _) (.cells #[.int .i64 dO, .int .u8 (tx : Int), .int .u8 (en : Int), .int .u64 (nw : Int)] 45))
  have iv1 := iv.mono (Nat.le_succ j)
  go_enter Try.func20, Try.ntmps20
  go_upto_region 1 with fail
  have hsz : w.heap.size < w.heap.size + 1 := Nat.lt_succ_self _
  generalize w.alloc (.cells #[.int .i64 dO, .int .u8 (tx : Int), .int .u8 (en : Int), .int .u64 (nw : Int)] 45) = v at hB D2 ⊢
  generalize w.heap.size = sb at hB hsz ⊢
  clear D hsz
  have x0 := hB.cell 0
  have x1 := hB.cell 1
  have x2 := hB.cell 2
  have x3 := hB.cell 3
  simp at x0 x1 x2 x3
  by_cases hd1 : dO = 1
  · subst hd1
    go_wp2_with fail
    have D3 := Duo.drew D2
    have B3 : Blk _ sb 45 _ := (show Blk (World.drew _) sb 45 _ from hB)
    go_region_held3 (fun w' => w'.cell? ⟨sb, 1, none⟩ = some (.int .u8 (tx : Int)) ∧ w'.cell? ⟨sb, 2, none⟩ = some (.int .u8 (en : Int)) ∧ w'.cell? ⟨sb, 3, none⟩ = some (.int .u64 (nw : Int)))
      (first | exact ⟨x1, x2, x3⟩ | exact ⟨y41, y42, y43⟩ | exact ⟨y51, y52, y53⟩ | exact ⟨y61, y62, y63⟩ | exact ⟨y71, y72, y73⟩ | exact ⟨y81, y82, y83⟩ | exact ⟨y91, y92, y93⟩ | exact ⟨y31, y32, y33⟩ | go_keep)
      (first
        | (go_at_call 12; refine (tx_any tx _).mono ?_; rintro r v4 ⟨rfl, e4⟩; have D4 := Duo.below D3 e4; have B4 := Blk.below B3 e4 B3.lt; have y41 := B4.cell 1; have y42 := B4.cell 2; have y43 := B4.cell 3; simp at y41 y42 y43)
        | (go_at_call 10; refine (end_any en hen _).mono ?_; rintro r v5 ⟨rfl, e5⟩; have D5 := Duo.below D4 e5; have B5 := Blk.below B4 e5 B4.lt; have y51 := B5.cell 1; have y52 := B5.cell 2; have y53 := B5.cell 3; simp at y51 y52 y53)
        | (go_at_call 13; refine (e_pong D5.live iv (by omega) (txOf tx) (endOf en) nw hnw).mono ?_; rintro r v6 ⟨rfl, l6, e6, s6⟩; have D6 := Duo.prog D5 l6 e6 s6; have B6 := box_prog B5 D5.live s6 (by decide) (by decide); have y61 := B6.cell 1; have y62 := B6.cell 2; have y63 := B6.cell 3; simp at y61 y62 y63)
        | (go_at_call 12; refine (tx_any tx _).mono ?_; rintro r v7 ⟨rfl, e7⟩; have D7 := Duo.below D6 e7; have B7 := Blk.below B6 e7 B6.lt; have y71 := B7.cell 1; have y72 := B7.cell 2; have y73 := B7.cell 3; simp at y71 y72 y73)
        | (go_at_call 10; refine (end_any en hen _).mono ?_; rintro r v8 ⟨rfl, e8⟩; have D8 := Duo.below D7 e8; have B8 := Blk.below B7 e8 B7.lt; have y81 := B8.cell 1; have y82 := B8.cell 2; have y83 := B8.cell 3; simp at y81 y82 y83)
        | (go_at_call 34; refine (s_pong D8.rl hs iv (by omega) ha (txOf tx) (endOf en) nw hnw).mono ?_; rintro r v9 ⟨rfl, l9, e9, s9⟩; have D9 := Duo.ref D8 l9 e9 s9; have B9 := box_ref B8 D8.rl s9 (by decide) (by decide); have y91 := B9.cell 1; have y92 := B9.cell 2; have y93 := B9.cell 3; simp at y91 y92 y93)
      )
    go_wp2_with fail
    go_ret
    exact ⟨by simp, _, _, D9, (sync_pong hs iv _ _ _).1, (inv_pong iv D2.live.lim (by omega) _ _ _ hnw), (rat_pong ha _ _ _)⟩
  have hn1 : (dO == 1) = false := by rw [beq_eq_false_iff_ne]; exact hd1
  by_cases hd2 : dO = 2
  · subst hd2
    clear hn1
    go_wp2_with fail
    go_at_call 15
    have hb1 := e_best D2.live iv (by omega) nw hnw
    have hb2 := fun (W : World) (h : RL n rb rt W) => s_best h hs iv (by omega) nw hnw
    rw [show bestV t nw = oneV (bestE t nw) from rfl] at hb1
    generalize bestE t nw = o at hb1 hb2
    unfold oneV at hb1 hb2
    refine hb1.mono ?_
    rintro r v3 ⟨rfl, l3, e3, s3⟩
    have D3 := Duo.prog D2 l3 e3 s3
    have B3 := box_prog hB D2.live s3 (by decide) (by decide)
    have C3 := Blk.new v3 35 #[.bool (o.getD End.zero).v6, .int .u64 ((o.getD End.zero).hi : Int), .int .u64 ((o.getD End.zero).lo : Int), .int .u16 ((o.getD End.zero).port : Int)]
    have D4 := Duo.below D3 ((Below.refl v3.heap.size v3).alloc (Nat.le_refl _) (.cells #[.bool (o.getD End.zero).v6, .int .u64 ((o.getD End.zero).hi : Int), .int .u64 ((o.getD End.zero).lo : Int), .int .u16 ((o.getD End.zero).port : Int)] 35))
    have B4 := B3.alloc (.cells #[.bool (o.getD End.zero).v6, .int .u64 ((o.getD End.zero).hi : Int), .int .u64 ((o.getD End.zero).lo : Int), .int .u16 ((o.getD End.zero).port : Int)] 35)
    have y43 : ∀ o, (v3.alloc o).cell? ⟨sb, 3, none⟩ = some (.int .u64 (nw : Int)) := fun o => (B3.alloc o).cell 3
    go_wp2_with fail
    generalize v3.alloc (.cells #[.bool (o.getD End.zero).v6, .int .u64 ((o.getD End.zero).hi : Int), .int .u64 ((o.getD End.zero).lo : Int), .int .u16 ((o.getD End.zero).port : Int)] 35) = v4 at C3 D4 ⊢
    generalize v3.heap.size = vb at C3 ⊢
    go_at_call 35
    refine (hb2 v4 D4.rl).mono ?_
    rintro r v5 ⟨rfl, l5, e5, s5⟩
    have D5 := Duo.ref D4 l5 e5 s5
    have C5 := box_ref C3 D4.rl s5 (by decide) (by decide)
    have c0 := C5.cell 0
    have c1 := C5.cell 1
    have c2 := C5.cell 2
    have c3 := C5.cell 3
    simp at c0 c1 c2 c3
    have hlt := C5.lt
    have hq := eq35 (o.getD End.zero) (o.getD End.zero)
    rw [End.eqb_iff.2 rfl] at hq
    have D6 := Duo.below D5 ((Below.refl v5.heap.size v5).alloc (Nat.le_refl _) (.cells #[.bool (o.getD End.zero).v6, .int .u64 ((o.getD End.zero).hi : Int), .int .u64 ((o.getD End.zero).lo : Int), .int .u16 ((o.getD End.zero).port : Int)] 35))
    have H6 := Lib.hid D6
    clear D6
    go_wp2_with fail
    go_ret
    exact ⟨by simp, _, _, H6.out, (sync_best hs iv nw).1, (inv_best iv1 nw), (rat_best ha nw)⟩
  have hn2 : (dO == 2) = false := by rw [beq_eq_false_iff_ne]; exact hd2
  by_cases hd3 : dO = 3
  · subst hd3
    clear hn1 hn2
    go_wp2_with fail
    have D3 := Duo.drew D2
    have B3 : Blk _ sb 45 _ := (show Blk (World.drew _) sb 45 _ from hB)
    go_region_held3 (fun w' => w'.cell? ⟨sb, 1, none⟩ = some (.int .u8 (tx : Int)) ∧ w'.cell? ⟨sb, 2, none⟩ = some (.int .u8 (en : Int)) ∧ w'.cell? ⟨sb, 3, none⟩ = some (.int .u64 (nw : Int)))
      (first | exact ⟨x1, x2, x3⟩ | exact ⟨y41, y42, y43⟩ | exact ⟨y51, y52, y53⟩ | exact ⟨y31, y32, y33⟩ | go_keep)
      (first
        | (go_at_call 14; refine (e_tidy D3.live iv (by omega) nw hnw).mono ?_; rintro r v4 ⟨rfl, l4, e4, s4⟩; have D4 := Duo.prog D3 l4 e4 s4; have B4 := box_prog B3 D3.live s4 (by decide) (by decide); have y41 := B4.cell 1; have y42 := B4.cell 2; have y43 := B4.cell 3; simp at y41 y42 y43)
        | (go_at_call 36; refine (s_tidy D4.rl hs iv (by omega) ha nw hnw).mono ?_; rintro r v5 ⟨rfl, l5, e5, s5⟩; have D5 := Duo.ref D4 l5 e5 s5; have B5 := box_ref B4 D4.rl s5 (by decide) (by decide); have y51 := B5.cell 1; have y52 := B5.cell 2; have y53 := B5.cell 3; simp at y51 y52 y53)
      )
    go_wp2_with fail
    go_ret
    exact ⟨by simp, _, _, D5, (sync_tidy hs iv nw), (inv_tidy iv nw), (rat_tidy ha nw)⟩
  have hn3 : (dO == 3) = false := by rw [beq_eq_false_iff_ne]; exact hd3
  by_cases hd4 : dO = 4
  · subst hd4
    clear hn1 hn2 hn3
    go_wp2_with fail
    have D3 := Duo.drew D2
    have B3 : Blk _ sb 45 _ := (show Blk (World.drew _) sb 45 _ from hB)
    go_region_held3 (fun w' => w'.cell? ⟨sb, 1, none⟩ = some (.int .u8 (tx : Int)) ∧ w'.cell? ⟨sb, 2, none⟩ = some (.int .u8 (en : Int)) ∧ w'.cell? ⟨sb, 3, none⟩ = some (.int .u64 (nw : Int)))
      (first | exact ⟨x1, x2, x3⟩ | exact ⟨y41, y42, y43⟩ | exact ⟨y51, y52, y53⟩ | exact ⟨y61, y62, y63⟩ | exact ⟨y71, y72, y73⟩ | exact ⟨y31, y32, y33⟩ | go_keep)
      (first
        | (go_at_call 10; refine (end_any en hen _).mono ?_; rintro r v4 ⟨rfl, e4⟩; have D4 := Duo.below D3 e4; have B4 := Blk.below B3 e4 B3.lt; have y41 := B4.cell 1; have y42 := B4.cell 2; have y43 := B4.cell 3; simp at y41 y42 y43)
        | (go_at_call 9; refine (e_add D4.live (endOf en)).mono ?_; rintro r v5 ⟨rfl, l5, e5, s5⟩; have D5 := Duo.prog D4 l5 e5 s5; have B5 := box_prog B4 D4.live s5 (by decide) (by decide); have y51 := B5.cell 1; have y52 := B5.cell 2; have y53 := B5.cell 3; simp at y51 y52 y53)
        | (go_at_call 10; refine (end_any en hen _).mono ?_; rintro r v6 ⟨rfl, e6⟩; have D6 := Duo.below D5 e6; have B6 := Blk.below B5 e6 B5.lt; have y61 := B6.cell 1; have y62 := B6.cell 2; have y63 := B6.cell 3; simp at y61 y62 y63)
        | (go_at_call 37; refine (s_add D6.rl hs iv (endOf en)).mono ?_; rintro r v7 ⟨rfl, l7, e7, s7⟩; have D7 := Duo.ref D6 l7 e7 s7; have B7 := box_ref B6 D6.rl s7 (by decide) (by decide); have y71 := B7.cell 1; have y72 := B7.cell 2; have y73 := B7.cell 3; simp at y71 y72 y73)
      )
    go_wp2_with fail
    go_ret
    exact ⟨by simp, _, _, D7, (sync_add hs iv _).1, ((inv_add iv _).mono (Nat.le_succ j)), (rat_add ha _)⟩
  have hn4 : (dO == 4) = false := by rw [beq_eq_false_iff_ne]; exact hd4
  by_cases hd5 : dO = 5
  · subst hd5
    clear hn1 hn2 hn3 hn4
    go_wp2_with fail
    have D3 := Duo.drew D2
    have B3 : Blk _ sb 45 _ := (show Blk (World.drew _) sb 45 _ from hB)
    go_region_held3 (fun w' => w'.cell? ⟨sb, 1, none⟩ = some (.int .u8 (tx : Int)) ∧ w'.cell? ⟨sb, 2, none⟩ = some (.int .u8 (en : Int)) ∧ w'.cell? ⟨sb, 3, none⟩ = some (.int .u64 (nw : Int)))
      (first | exact ⟨x1, x2, x3⟩ | exact ⟨y41, y42, y43⟩ | exact ⟨y51, y52, y53⟩ | exact ⟨y61, y62, y63⟩ | exact ⟨y71, y72, y73⟩ | exact ⟨y31, y32, y33⟩ | go_keep)
      (first
        | (go_at_call 10; refine (end_any en hen _).mono ?_; rintro r v4 ⟨rfl, e4⟩; have D4 := Duo.below D3 e4; have B4 := Blk.below B3 e4 B3.lt; have y41 := B4.cell 1; have y42 := B4.cell 2; have y43 := B4.cell 3; simp at y41 y42 y43)
        | (go_at_call 16; refine (e_drop D4.live iv (endOf en)).mono ?_; rintro r v5 ⟨rfl, l5, e5, s5⟩; have D5 := Duo.prog D4 l5 e5 s5; have B5 := box_prog B4 D4.live s5 (by decide) (by decide); have y51 := B5.cell 1; have y52 := B5.cell 2; have y53 := B5.cell 3; simp at y51 y52 y53)
        | (go_at_call 10; refine (end_any en hen _).mono ?_; rintro r v6 ⟨rfl, e6⟩; have D6 := Duo.below D5 e6; have B6 := Blk.below B5 e6 B5.lt; have y61 := B6.cell 1; have y62 := B6.cell 2; have y63 := B6.cell 3; simp at y61 y62 y63)
        | (go_at_call 38; refine (s_drop D6.rl hs iv (endOf en)).mono ?_; rintro r v7 ⟨rfl, l7, e7, s7⟩; have D7 := Duo.ref D6 l7 e7 s7; have B7 := box_ref B6 D6.rl s7 (by decide) (by decide); have y71 := B7.cell 1; have y72 := B7.cell 2; have y73 := B7.cell 3; simp at y71 y72 y73)
      )
    go_wp2_with fail
    go_ret
    exact ⟨by simp, _, _, D7, (sync_drop hs iv _).1, ((inv_drop iv _).mono (Nat.le_succ j)), (rat_drop ha _)⟩
  have hn5 : (dO == 5) = false := by rw [beq_eq_false_iff_ne]; exact hd5
  by_cases hd6 : dO = 6
  · subst hd6
    clear hn1 hn2 hn3 hn4 hn5
    go_wp2_with fail
    obtain ⟨sv, sx, hsx⟩ := scoreV_some t (endOf en) nw
    have hes := fun (W : World) (h : Live n b t W) => e_score h iv (by omega) (endOf en) nw hnw
    have hss := fun (W : World) (h : RL n rb rt W) => s_score h hs iv (by omega) (endOf en) nw hnw
    simp only [hsx] at hes hss
    clear hsx
    have D3 := Duo.drew D2
    have B3 : Blk _ sb 45 _ := (show Blk (World.drew _) sb 45 _ from hB)
    go_region_held3 (fun w' => w'.cell? ⟨sb, 1, none⟩ = some (.int .u8 (tx : Int)) ∧ w'.cell? ⟨sb, 2, none⟩ = some (.int .u8 (en : Int)) ∧ w'.cell? ⟨sb, 3, none⟩ = some (.int .u64 (nw : Int)))
      (first | exact ⟨x1, x2, x3⟩ | exact ⟨y41, y42, y43⟩ | exact ⟨y51, y52, y53⟩ | exact ⟨y31, y32, y33⟩ | go_keep)
      (first
        | (go_at_call 10; refine (end_any en hen _).mono ?_; rintro r v4 ⟨rfl, e4⟩; have D4 := Duo.below D3 e4; have B4 := Blk.below B3 e4 B3.lt; have y41 := B4.cell 1; have y42 := B4.cell 2; have y43 := B4.cell 3; simp at y41 y42 y43)
        | (go_at_call 17; refine (hes _ D4.live).mono ?_; rintro r v5 ⟨rfl, l5, e5⟩; have D5 := Duo.below D4 e5; have B5 := Blk.below B4 e5 B4.lt; have y51 := B5.cell 1; have y52 := B5.cell 2; have y53 := B5.cell 3; simp at y51 y52 y53)
      )
    go_wp2_with fail
    have D6 := Duo.drew D5
    have B6 : Blk _ sb 45 _ := (show Blk (World.drew _) sb 45 _ from B5)
    go_region_held3 (fun w' => w'.cell? ⟨sb, 1, none⟩ = some (.int .u8 (tx : Int)) ∧ w'.cell? ⟨sb, 2, none⟩ = some (.int .u8 (en : Int)) ∧ w'.cell? ⟨sb, 3, none⟩ = some (.int .u64 (nw : Int)))
      (first | exact ⟨x1, x2, x3⟩ | exact ⟨y71, y72, y73⟩ | exact ⟨y81, y82, y83⟩ | exact ⟨y61, y62, y63⟩ | go_keep)
      (first
        | (go_at_call 10; refine (end_any en hen _).mono ?_; rintro r v7 ⟨rfl, e7⟩; have D7 := Duo.below D6 e7; have B7 := Blk.below B6 e7 B6.lt; have y71 := B7.cell 1; have y72 := B7.cell 2; have y73 := B7.cell 3; simp at y71 y72 y73)
        | (go_at_call 39; refine (hss _ D7.rl).mono ?_; rintro r v8 ⟨rfl, l8, e8⟩; have D8 := Duo.below D7 e8; have B8 := Blk.below B7 e8 B7.lt; have y81 := B8.cell 1; have y82 := B8.cell 2; have y83 := B8.cell 3; simp at y81 y82 y83)
      )
    go_wp2_with (go_at_call 40; refine (bits_any sv _).mono ?_; rintro r v9 ⟨rfl, rfl⟩)
    go_ret
    exact ⟨by simp, _, _, D8, hs, iv1, ha⟩
  have hn6 : (dO == 6) = false := by rw [beq_eq_false_iff_ne]; exact hd6
  by_cases h255 : tx = 255
  · clear hd1 hd2 hd3 hd4 hd5 hd6
    have htq : ((tx : Int) == 255) = true := by simp; omega
    have Htq := Lib.hid htq
    clear htq h255
    go_wp2_with fail
    go_at_call 12
    refine (tx_any tx _).mono ?_
    rintro r v3 ⟨rfl, e3⟩
    have D3 := Duo.below D2 e3
    have B3 := Blk.below hB e3 hB.lt
    have y31 := B3.cell 1
    have y32 := B3.cell 2
    have y33 := B3.cell 3
    simp at y31 y32 y33
    have htq2 := Htq.out
    go_wp2_with fail
    clear htq2
    have D4 := Duo.drew D3
    have B4 : Blk _ sb 45 _ := (show Blk (World.drew _) sb 45 _ from B3)
    go_region_held3 (fun w' => w'.cell? ⟨sb, 1, none⟩ = some (.int .u8 (tx : Int)) ∧ w'.cell? ⟨sb, 2, none⟩ = some (.int .u8 (en : Int)) ∧ w'.cell? ⟨sb, 3, none⟩ = some (.int .u64 (nw : Int)))
      (first | exact ⟨x1, x2, x3⟩ | exact ⟨y51, y52, y53⟩ | exact ⟨y61, y62, y63⟩ | exact ⟨y71, y72, y73⟩ | exact ⟨y81, y82, y83⟩ | exact ⟨y41, y42, y43⟩ | go_keep)
      (first
        | (go_at_call 10; refine (end_any en hen _).mono ?_; rintro r v5 ⟨rfl, e5⟩; have D5 := Duo.below D4 e5; have B5 := Blk.below B4 e5 B4.lt; have y51 := B5.cell 1; have y52 := B5.cell 2; have y53 := B5.cell 3; simp at y51 y52 y53)
        | (go_at_call 11; refine (e_sent D5.live iv (⟨#[115, 104, 111, 114, 116]⟩ : ByteArray) (endOf en) nw).mono ?_; rintro r v6 ⟨rfl, l6, e6, s6⟩; have D6 := Duo.prog D5 l6 e6 s6; have B6 := box_prog B5 D5.live s6 (by decide) (by decide); have y61 := B6.cell 1; have y62 := B6.cell 2; have y63 := B6.cell 3; simp at y61 y62 y63)
        | (go_at_call 10; refine (end_any en hen _).mono ?_; rintro r v7 ⟨rfl, e7⟩; have D7 := Duo.below D6 e7; have B7 := Blk.below B6 e7 B6.lt; have y71 := B7.cell 1; have y72 := B7.cell 2; have y73 := B7.cell 3; simp at y71 y72 y73)
        | (go_at_call 41; refine (s_sent D7.rl hs iv (⟨#[115, 104, 111, 114, 116]⟩ : ByteArray) (endOf en) nw).mono ?_; rintro r v8 ⟨rfl, l8, e8, s8⟩; have D8 := Duo.ref D7 l8 e8 s8; have B8 := box_ref B7 D7.rl s8 (by decide) (by decide); have y81 := B8.cell 1; have y82 := B8.cell 2; have y83 := B8.cell 3; simp at y81 y82 y83)
      )
    go_wp2_with fail
    go_ret
    exact ⟨by simp, _, _, D8, (sync_sent hs iv _ _ _).1, (inv_sent iv _ _ _ hnw), (rat_sent ha _ _ _ hnw)⟩
  · clear hd1 hd2 hd3 hd4 hd5 hd6
    have htq : ((tx : Int) == 255) = false := by simp; omega
    have Htq := Lib.hid htq
    clear htq h255
    go_wp2_with fail
    go_at_call 12
    refine (tx_any tx _).mono ?_
    rintro r v3 ⟨rfl, e3⟩
    have D3 := Duo.below D2 e3
    have B3 := Blk.below hB e3 hB.lt
    have y31 := B3.cell 1
    have y32 := B3.cell 2
    have y33 := B3.cell 3
    simp at y31 y32 y33
    have htq2 := Htq.out
    go_wp2_with fail
    clear htq2
    have D4 := Duo.drew D3
    have B4 : Blk _ sb 45 _ := (show Blk (World.drew _) sb 45 _ from B3)
    go_region_held3 (fun w' => w'.cell? ⟨sb, 1, none⟩ = some (.int .u8 (tx : Int)) ∧ w'.cell? ⟨sb, 2, none⟩ = some (.int .u8 (en : Int)) ∧ w'.cell? ⟨sb, 3, none⟩ = some (.int .u64 (nw : Int)))
      (first | exact ⟨x1, x2, x3⟩ | exact ⟨y51, y52, y53⟩ | exact ⟨y61, y62, y63⟩ | exact ⟨y71, y72, y73⟩ | exact ⟨y81, y82, y83⟩ | exact ⟨y41, y42, y43⟩ | go_keep)
      (first
        | (go_at_call 10; refine (end_any en hen _).mono ?_; rintro r v5 ⟨rfl, e5⟩; have D5 := Duo.below D4 e5; have B5 := Blk.below B4 e5 B4.lt; have y51 := B5.cell 1; have y52 := B5.cell 2; have y53 := B5.cell 3; simp at y51 y52 y53)
        | (go_at_call 11; refine (e_sent D5.live iv (txOf tx : ByteArray) (endOf en) nw).mono ?_; rintro r v6 ⟨rfl, l6, e6, s6⟩; have D6 := Duo.prog D5 l6 e6 s6; have B6 := box_prog B5 D5.live s6 (by decide) (by decide); have y61 := B6.cell 1; have y62 := B6.cell 2; have y63 := B6.cell 3; simp at y61 y62 y63)
        | (go_at_call 10; refine (end_any en hen _).mono ?_; rintro r v7 ⟨rfl, e7⟩; have D7 := Duo.below D6 e7; have B7 := Blk.below B6 e7 B6.lt; have y71 := B7.cell 1; have y72 := B7.cell 2; have y73 := B7.cell 3; simp at y71 y72 y73)
        | (go_at_call 41; refine (s_sent D7.rl hs iv (txOf tx : ByteArray) (endOf en) nw).mono ?_; rintro r v8 ⟨rfl, l8, e8, s8⟩; have D8 := Duo.ref D7 l8 e8 s8; have B8 := box_ref B7 D7.rl s8 (by decide) (by decide); have y81 := B8.cell 1; have y82 := B8.cell 2; have y83 := B8.cell 3; simp at y81 y82 y83)
      )
    go_wp2_with fail
    go_ret
    exact ⟨by simp, _, _, D8, (sync_sent hs iv _ _ _).1, (inv_sent iv _ _ _ hnw), (rat_sent ha _ _ _ hnw)⟩

end Go.Proofs.Ytbopmcdmahabbaa
