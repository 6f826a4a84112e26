/- PathsBest: the walk. -/
import Derived.Test.YtbopmcdmahabbaaPcJ
import Derived.Test.YtbopmcdmahabbaaPbE
namespace Go.Proofs.Ytbopmcdmahabbaa
open Go.RowKit

theorem bestV_one (t : Tab) (now : Nat) : bestV t now = oneV (bestE t now) := rfl

theorem bestE_again {t : Tab} {now : Nat} (h : Told t now) : bestE (t.best now) now = bestE t now := by
  unfold bestE
  rw [h.again]
  rfl

theorem any_take {t : Tab} {now k : Nat} {p : Pth} (hp : t.l[k]? = some p) : (t.l.take (k + 1)).any (fun p => there t p now) = ((t.l.take k).any (fun p => there t p now) || there t p now) := by
  have hlt : k < t.l.length := by
    rcases Nat.lt_or_ge k t.l.length with h | h
    · exact h
    · rw [List.getElem?_eq_none h] at hp; cases hp
  rw [List.take_succ_eq_append_getElem hlt, List.any_append]
  rw [List.getElem?_eq_getElem hlt] at hp
  injection hp with hp
  rw [hp]
  simp

theorem any_none {t : Tab} {now k : Nat} (h : ∀ p ∈ t.l, there t p now = false) : (t.l.take k).any (fun p => there t p now) = false := by
  rw [List.any_eq_false]
  intro p hp
  rw [h p (List.mem_of_mem_take hp)]
  simp

theorem scoreV_any (t : Tab) (e : End) (now : Nat) : ∃ s x, scoreV t e now = .tuple #[.float .f64 s, .bool x] := by
  unfold scoreV
  split
  · exact ⟨_, _, rfl⟩
  · exact ⟨_, _, rfl⟩

theorem scoreV_own {t : Tab} {now k j : Nat} {p : Pth} (iv : Inv j t) (hp : t.l[k]? = some p) : scoreV t p.e now = .tuple #[.float .f64 (if there t p now then sc p else 0), .bool (there t p now)] := by
  unfold scoreV
  rw [findI_own iv hp, Option.bind_some, hp]

theorem PCells.below {w w' : World} {B : Nat} {A : Option Addr} {l : List Pth} (h : PCells w B A l) (hb : Below w.heap.size w w') : PCells w' B A l := by
  intro i p hi
  obtain ⟨g, e, h1, h2, h3⟩ := h i p hi
  exact ⟨g, e, h1, Nat.lt_of_lt_of_le h2 hb.size, fun j hj => (hb.cell (p := ⟨g, i * 8 + j, none⟩) h2).trans (h3 j hj)⟩

set_option maxHeartbeats 4000000 in
set_option maxRecDepth 100000 in
theorem best_yes (wa li lo mo : Nat) (A0 : Option Addr) (len cap0 : Nat) (L : Nat → Stp) (now : Nat) (hnow : now < M64) (w : World) (h : okLim wa li lo mo) (hlen : len ≤ 200) (hst : Steps w A0 len L) :
    Calls Try.prog 4 #[.agg #[.int .u64 (wa : Int), .int .u64 (li : Int), .int .i64 (lo : Int), .int .i64 (mo : Int)], .slice A0 len cap0, .int .u64 (now : Int)] w fun r w' => r = .returned (.bool true) ∧ Below w.heap.size w w' := by
  have hz := Blk.new w 24 #[.int .u64 (wa : Int), .int .u64 (li : Int), .int .i64 (lo : Int), .int .i64 (mo : Int)]
  have b := (Below.refl w.heap.size w).alloc (Nat.le_refl _) (.cells #[.int .u64 (wa : Int), .int .u64 (li : Int), .int .i64 (lo : Int), .int .i64 (mo : Int)] 24)
  have hs0 : (w.alloc (.cells #[.int .u64 (wa : Int), .int .u64 (li : Int), .int .i64 (lo : Int), .int .i64 (mo : Int)] 24)).heap.size = w.heap.size + 1 := by simp
  have hst := hst.below b
  go_enter Try.func4, Try.ntmps4
  go_wp2_with fail
  generalize w.alloc (.cells #[.int .u64 (wa : Int), .int .u64 (li : Int), .int .i64 (lo : Int), .int .i64 (mo : Int)] 24) = W at hz b hs0 hst ⊢
  have hzl : w.heap.size < W.heap.size := by omega
  clear hs0
  go_at_call 7
  refine (new_yes wa li lo mo W h).mono ?_
  rintro r w0 ⟨rfl, l0, b0⟩
  have R0 : Runs W.heap.size (W.heap.size + 2) 0 (Tab.new wa li lo mo) (Tab.new wa li lo mo) w0 := ⟨l0, inv_new wa li lo mo, Same.refl _⟩
  clear l0
  go_wp2_with fail
  go_loopw [9] (fun v9 wr => ∃ (i : Nat) (t : Tab), i ≤ len ∧ v9 = .int .i64 (i : Int) ∧ Runs W.heap.size (W.heap.size + 2) i (Tab.new wa li lo mo) t wr ∧ Below W.heap.size W wr)
    (fun v9 _ => len - (intOf v9).toNat)
  case atStart => exact ⟨0, _, Nat.zero_le _, rfl, R0, b0⟩
  case round =>
    obtain ⟨i, t, hi, rfl, Rr, br⟩ := hrel
    clear R0 b0
    by_cases hlt : i < len
    · have hiL : (i : Int) < (len : Int) := by omega
      obtain ⟨ab, off, rfl, hab, hc⟩ := hst.mem (by omega)
      obtain ⟨c0, c1, c2, c3⟩ := hc i hlt
      have htx := hst.tx i hlt
      have hen := hst.en i hlt
      have hnw := hst.now i hlt
      have c0 := (br.cell (p := ⟨ab, off + i * 4, none⟩) hab).trans c0
      have c1 := (br.cell (p := ⟨ab, off + i * 4 + 1, none⟩) hab).trans c1
      have c2 := (br.cell (p := ⟨ab, off + i * 4 + 2, none⟩) hab).trans c2
      have c3 := (br.cell (p := ⟨ab, off + i * 4 + 3, none⟩) hab).trans c3
      generalize L i = s at c0 c1 c2 c3 htx hen hnw
      obtain ⟨dO, tx, en, nw⟩ := s
      simp only at c0 c1 c2 c3 htx hen hnw
      clear hc
      have hi0 : (0 : Int) ≤ (i : Int) := by omega
      go_wp2_with fail
      have hB := Blk.new wr 45 #[.int .i64 dO, .int .u8 (tx : Int), .int .u8 (en : Int), .int .u64 (nw : Int)]
      have l0 := Rr.live.below ((Below.refl wr.heap.size wr).alloc (Nat.le_refl _) (.cells #[.int .i64 dO, .int .u8 (tx : Int), .int .u8 (en : Int), .int .u64 (nw : Int)] 45))
      have b0 := br.alloc Rr.live.size (.cells #[.int .i64 dO, .int .u8 (tx : Int), .int .u8 (en : Int), .int .u64 (nw : Int)] 45)
      have hne : wr.heap.size ≠ W.heap.size + 2 := by have := Rr.live.blt; omega
      have hIv := Rr.inv
      have hSm := Rr.same
      generalize wr.alloc (.cells #[.int .i64 dO, .int .u8 (tx : Int), .int .u8 (en : Int), .int .u64 (nw : Int)] 45) = v0 at hB l0 b0 ⊢
      generalize hsb : wr.heap.size = sb at hB hne ⊢
      clear hsb Rr
      refine (end_any en hen v0).mono ?_
      rintro r v1 ⟨rfl, e1⟩
      have l1 := l0.below e1
      have b1 := b0.trans (e1.mono l0.size)
      have hB1 := hB.below e1 hB.lt
      go_wp2_with fail
      go_at_call 9
      refine (e_add l1 (endOf en)).mono ?_
      rintro r v2 ⟨rfl, l2, e2, s2⟩
      have b2 := b1.trans e2
      have hB2 := s2 _ _ _ hne (by decide) hB1
      have iv2 := inv_add hIv (endOf en)
      have sm2 := hSm.trans (same_add t (endOf en))
      generalize (addT t (endOf en)).1 = t2 at l2 iv2 sm2
      clear hB l0 b0 l1 b1 hB1 e1 e2 s2 hIv hSm c0 c1 c2 c3
      have x0 := hB2.cell 0
      have x1 := hB2.cell 1
      have x2 := hB2.cell 2
      have x3 := hB2.cell 3
      simp at x0 x1 x2 x3
      have fin : ∀ (t3 : Tab) (v3 : World), Live W.heap.size (W.heap.size + 2) t3 v3 → Inv (i + 1) t3 → Same t2 t3 → Below W.heap.size v2 v3 → Runs W.heap.size (W.heap.size + 2) (i + 1) (Tab.new wa li lo mo) t3 v3 ∧ Below W.heap.size W v3 := fun t3 v3 a1 a2 a3 a4 => ⟨⟨a1, a2, sm2.trans a3⟩, b2.trans a4⟩
      have Fin := Lib.hid fin
      clear fin
      have ei : ((i + 1 : Nat) : Int) = (i : Int) + 1 := by omega
      have Ei := Lib.hid ei
      clear ei
      by_cases hd1 : dO = 1
      · subst hd1
        go_wp2_with fail
        go_region_held3 (fun w' => w'.cell? ⟨sb, 1, none⟩ = some (.int .u8 (tx : Int)) ∧ w'.cell? ⟨sb, 2, none⟩ = some (.int .u8 (en : Int)) ∧ w'.cell? ⟨sb, 3, none⟩ = some (.int .u64 (nw : Int)))
          (first | exact ⟨x1, x2, x3⟩ | exact ⟨y1, y2, y3⟩ | exact ⟨z1, z2, z3⟩ | exact ⟨u1, u2, u3⟩ | go_keep)
          (first
            | (go_at_call 12; refine (tx_any tx _).mono ?_; rintro r v3 ⟨rfl, e3⟩; have hB3 := Blk.below (show Blk v2.drew sb 45 _ from hB2) e3 hB2.lt; have l3 := Live.below (show Live _ _ t2 v2.drew from l2.drewN 1) e3; have y1 := hB3.cell 1; have y2 := hB3.cell 2; have y3 := hB3.cell 3; simp at y1 y2 y3)
            | (go_at_call 10; refine (end_any en hen _).mono ?_; rintro r v4 ⟨rfl, e4⟩; have hB4 := hB3.below e4 hB3.lt; have l4 := l3.below e4; have z1 := hB4.cell 1; have z2 := hB4.cell 2; have z3 := hB4.cell 3; simp at z1 z2 z3)
            | (go_at_call 13; refine (e_pong l4 iv2 (by omega) (txOf tx) (endOf en) nw hnw).mono ?_; rintro r v5 ⟨rfl, l5, e5, s5⟩; have hB5 := s5 _ _ _ hne (by decide) hB4; have u1 := hB5.cell 1; have u2 := hB5.cell 2; have u3 := hB5.cell 3; simp at u1 u2 u3))
        have e3' : Below v2.heap.size v2 v3 := ⟨e3.os, e3.tape, e3.output, e3.size, e3.block⟩
        have bb := ((e3'.mono l2.size).trans (e4.mono l3.size)).trans e5
        have ff := Fin.out _ _ l5 (inv_pong iv2 l4.lim (by omega) (txOf tx) (endOf en) nw hnw) (same_pong t2 (txOf tx) (endOf en) nw) bb
        have FF := Lib.hid ff
        clear ff
        go_wp2_with fail
        go_roundw
        case rel => exact ⟨i + 1, _, by omega, by rw [Ei.out], FF.out.1, FF.out.2⟩
        case measure => simp [intOf]; omega
      have hn1 : (dO == 1) = false := by rw [beq_eq_false_iff_ne]; exact hd1
      by_cases hd2 : dO = 2
      · subst hd2
        clear hn1
        go_wp2_with fail
        go_at_call 15
        refine (e_best l2 iv2 (by omega) nw hnw).mono ?_
        rintro r v5 ⟨rfl, l5, e5, s5⟩
        have ff := Fin.out _ _ l5 ((inv_best iv2 nw).mono (Nat.le_succ i)) (same_best t2 nw) e5
        have FF := Lib.hid ff
        clear ff
        go_wp2_with fail
        go_roundw
        case rel => exact ⟨i + 1, _, by omega, by rw [Ei.out], FF.out.1, FF.out.2⟩
        case measure => simp [intOf]; omega
      have hn2 : (dO == 2) = false := by rw [beq_eq_false_iff_ne]; exact hd2
      by_cases hd3 : dO = 3
      · subst hd3
        clear hn1 hn2
        go_wp2_with fail
        go_at_call 14
        refine (e_tidy l2 iv2 (by omega) nw hnw).mono ?_
        rintro r v5 ⟨rfl, l5, e5, s5⟩
        have ff := Fin.out _ _ l5 (inv_tidy iv2 nw) (same_tidy t2 nw) e5
        have FF := Lib.hid ff
        clear ff
        go_wp2_with fail
        go_roundw
        case rel => exact ⟨i + 1, _, by omega, by rw [Ei.out], FF.out.1, FF.out.2⟩
        case measure => simp [intOf]; omega
      have hn3 : (dO == 3) = false := by rw [beq_eq_false_iff_ne]; exact hd3
      by_cases hd5 : dO = 5
      · subst hd5
        clear hn1 hn2 hn3
        go_wp2_with fail
        go_at_call 10
        refine (end_any en hen _).mono ?_
        rintro r v4 ⟨rfl, e4⟩
        have l4 := l2.below e4
        go_wp2_with fail
        go_at_call 16
        refine (e_drop l4 iv2 (endOf en)).mono ?_
        rintro r v5 ⟨rfl, l5, e5, s5⟩
        have ff := Fin.out _ _ l5 ((inv_drop iv2 (endOf en)).mono (Nat.le_succ i)) (same_drop t2 (endOf en)) ((e4.mono l2.size).trans e5)
        have FF := Lib.hid ff
        clear ff
        go_wp2_with fail
        go_roundw
        case rel => exact ⟨i + 1, _, by omega, by rw [Ei.out], FF.out.1, FF.out.2⟩
        case measure => simp [intOf]; omega
      have hn5 : (dO == 5) = false := by rw [beq_eq_false_iff_ne]; exact hd5
      · clear hd1 hd2 hd3 hd5
        go_wp2_with fail
        go_region_held3 (fun w' => w'.cell? ⟨sb, 1, none⟩ = some (.int .u8 (tx : Int)) ∧ w'.cell? ⟨sb, 2, none⟩ = some (.int .u8 (en : Int)) ∧ w'.cell? ⟨sb, 3, none⟩ = some (.int .u64 (nw : Int)))
          (first | exact ⟨x1, x2, x3⟩ | exact ⟨y1, y2, y3⟩ | exact ⟨z1, z2, z3⟩ | exact ⟨u1, u2, u3⟩ | go_keep)
          (first
            | (go_at_call 12; refine (tx_any tx _).mono ?_; rintro r v3 ⟨rfl, e3⟩; have hB3 := Blk.below (show Blk v2.drew sb 45 _ from hB2) e3 hB2.lt; have l3 := Live.below (show Live _ _ t2 v2.drew from l2.drewN 1) e3; have y1 := hB3.cell 1; have y2 := hB3.cell 2; have y3 := hB3.cell 3; simp at y1 y2 y3)
            | (go_at_call 10; refine (end_any en hen _).mono ?_; rintro r v4 ⟨rfl, e4⟩; have hB4 := hB3.below e4 hB3.lt; have l4 := l3.below e4; have z1 := hB4.cell 1; have z2 := hB4.cell 2; have z3 := hB4.cell 3; simp at z1 z2 z3)
            | (go_at_call 11; refine (e_sent l4 iv2 (txOf tx) (endOf en) nw).mono ?_; rintro r v5 ⟨rfl, l5, e5, s5⟩; have hB5 := s5 _ _ _ hne (by decide) hB4; have u1 := hB5.cell 1; have u2 := hB5.cell 2; have u3 := hB5.cell 3; simp at u1 u2 u3))
        have e3' : Below v2.heap.size v2 v3 := ⟨e3.os, e3.tape, e3.output, e3.size, e3.block⟩
        have bb := ((e3'.mono l2.size).trans (e4.mono l3.size)).trans e5
        have ff := Fin.out _ _ l5 (inv_sent iv2 (txOf tx) (endOf en) nw hnw) (same_sent t2 (txOf tx) (endOf en) nw) bb
        have FF := Lib.hid ff
        clear ff
        go_wp2_with fail
        go_roundw
        case rel => exact ⟨i + 1, _, by omega, by rw [Ei.out], FF.out.1, FF.out.2⟩
        case measure => simp [intOf]; omega
    · have hlt2 : decide ((i : Int) < (len : Int)) = false := by rw [decide_eq_false_iff_not]; omega
      have hT := told Rr.inv (by omega) now
      have hIv := inv_best Rr.inv now
      have hSm := Rr.same.trans (same_best t now)
      have hb1 := e_best Rr.live Rr.inv (by omega) now hnow
      rw [bestV_one] at hb1
      have hag := bestE_again hT
      have hno : bestE t now = none → ∀ p ∈ t.l, there t p now = false := fun h => hT.no (by
        cases hb : bestI t now with
        | none => rfl
        | some m =>
          obtain ⟨q, hq, _⟩ := hT.yes m hb
          unfold bestE at h
          rw [hb, Option.bind_some, hq] at h
          cases h)
      have hyes : ∀ e, bestE t now = some e → ∃ m q, t.l[m]? = some q ∧ q.e = e ∧ there t q now = true ∧ ∀ p ∈ t.l, there t p now = true → flt (plus (sc p) (eighth (sc q))) (sc q) = false := fun e h => by
        cases hb : bestI t now with
        | none => unfold bestE at h; rw [hb] at h; cases h
        | some m =>
          obtain ⟨q, hq, h1, h2⟩ := hT.yes m hb
          unfold bestE at h
          rw [hb, Option.bind_some, hq, Option.map_some] at h
          injection h with h
          exact ⟨m, q, hq, h, h1, h2⟩
      generalize ho : bestE t now = o at hb1 hag hno hyes
      clear ho hT
      have hlr := Rr.live
      have hno' : o = none → ∀ p ∈ (t.best now).l, there (t.best now) p now = false := hno
      have hyes' : ∀ e, o = some e → ∃ m q, (t.best now).l[m]? = some q ∧ q.e = e ∧ there (t.best now) q now = true ∧ ∀ p ∈ (t.best now).l, there (t.best now) p now = true → flt (plus (sc p) (eighth (sc q))) (sc q) = false := hyes
      have hfin := hIv.fin (by omega)
      have hb2 := fun (v : World) (hl : Live W.heap.size (W.heap.size + 2) (t.best now) v) => e_best hl hIv (by omega) now hnow
      have hli : (t.best now).life = li := hSm.life
      have hlo : (t.best now).losses = lo := hSm.losses
      simp only [bestV_one, hag] at hb2
      have Hb2 := Lib.hid hb2
      have Hb1 := Lib.hid hb1
      have Hno := Lib.hid hno'
      have Hyes := Lib.hid hyes'
      have Hfin := Lib.hid hfin
      have Hiv := Lib.hid hIv
      have Hli := Lib.hid hli
      have Hlo := Lib.hid hlo
      clear hno hyes hno' hyes' hag hb1 hb2 hfin hIv hSm hli hlo Rr
      generalize t.best now = T at *
      cases o with
      | none =>
        have hb1 := Hb1.out
        simp only [oneV, Option.isSome_none, Option.getD_none] at hb1
        have Hb := Lib.hid hb1
        clear hb1 Hb1
        go_wp2_with fail
        go_at_call 15
        refine Hb.out.mono ?_
        rintro r v1 ⟨rfl, l1, e1, _⟩
        have n1 := br.trans e1
        go_wp2_with fail
        have hE := Blk.new v1 35 #[.bool (End.zero).v6, .int .u64 ((End.zero).hi : Int), .int .u64 ((End.zero).lo : Int), .int .u16 ((End.zero).port : Int)]
        have l2 := l1.below ((Below.refl v1.heap.size v1).alloc (Nat.le_refl _) (.cells #[.bool (End.zero).v6, .int .u64 ((End.zero).hi : Int), .int .u64 ((End.zero).lo : Int), .int .u16 ((End.zero).port : Int)] 35))
        have n2 := n1.alloc l1.size (.cells #[.bool (End.zero).v6, .int .u64 ((End.zero).hi : Int), .int .u64 ((End.zero).lo : Int), .int .u16 ((End.zero).port : Int)] 35)
        have hne : v1.heap.size ≠ W.heap.size + 2 := by have := l1.blt; omega
        generalize v1.alloc (.cells #[.bool (End.zero).v6, .int .u64 ((End.zero).hi : Int), .int .u64 ((End.zero).lo : Int), .int .u16 ((End.zero).port : Int)] 35) = v2 at hE l2 n2 ⊢
        generalize hsb : v1.heap.size = sb at hE hne ⊢
        clear hsb e1 n1 l1
        obtain ⟨sv, sx, hsx⟩ := scoreV_any T End.zero now
        have hs := e_score l2 Hiv.out (by omega) End.zero now hnow
        rw [hsx] at hs
        clear hsx
        go_at_call 17
        refine hs.mono ?_
        rintro r v3 ⟨rfl, l3, e3⟩
        have n3 := n2.trans (e3.mono l2.size)
        have hE3 := hE.below e3 hE.lt
        go_upto_region 23 with fail
        go_cut [110] (fun v110 wx => v110 = .bool false ∧ wx = v3)
        case first =>
          cases sx with
          | false =>
            go_wp2_with fail
            go_meet
            exact ⟨rfl, rfl⟩
          | true =>
            go_wp2_with fail
            go_meet
            exact ⟨rfl, rfl⟩
        case rest =>
        obtain ⟨rfl, rfl⟩ := hcut
        go_wp2_with fail
        go_at_call 18
        refine (live_paths l3).mono ?_
        rintro r v4 ⟨A2, rfl, pc, l4, e4⟩
        have n4 := n3.trans (e4.mono l3.size)
        have hE4 := hE3.below e4 hE3.lt
        have hz4 := hz.below n4 hzl
        have hlen2 : T.l.length ≤ 64 := Nat.le_trans l4.lim.len l4.lim.most1
        clear l2 l3 n2 n3 e3 e4 hE hE3
        go_wp2_with fail
        go_loopw [16, 17] (fun v16 v17 wx => ∃ k : Nat, k ≤ T.l.length ∧ v16 = .bool (false) ∧ v17 = .int .i64 (k : Int) ∧ Below v4.heap.size v4 wx) (fun _ v17 _ => T.l.length - (intOf v17).toNat)
        case atStart => exact ⟨0, Nat.zero_le _, rfl, rfl, Below.refl _ _⟩
        case round =>
          obtain ⟨k, hk, rfl, rfl, bx⟩ := hrel
          have lx := l4.below bx
          by_cases hkl : k < T.l.length
          · have hkL : (k : Int) < (T.l.length : Int) := by omega
            obtain ⟨p, hp⟩ : ∃ p, T.l[k]? = some p := ⟨T.l[k], List.getElem?_eq_getElem hkl⟩
            have hpm := List.mem_of_getElem? hp
            obtain ⟨g, rfl, hg0, hgl, hc⟩ := (pc.below bx) k p hp
            have q0 := hc 0 (by omega)
            have q1 := hc 1 (by omega)
            have q2 := hc 2 (by omega)
            have q3 := hc 3 (by omega)
            have q5 := hc 5 (by omega)
            have q6 := hc 6 (by omega)
            have q7 := hc 7 (by omega)
            simp [Pth.cells] at q0 q1 q2 q3 q5 q6 q7
            have hsc := e_score lx Hiv.out (by omega) p.e now hnow
            rw [scoreV_own Hiv.out hp] at hsc
            have hk0 : (0 : Int) ≤ (k : Int) := by omega
            have hk1 : (k : Int) < 64 := by omega
            have ek : ((k + 1 : Nat) : Int) = (k : Int) + 1 := by omega
            have Ek := Lib.hid ek
            have Hp := Lib.hid hp
            have Hpm := Lib.hid hpm
            clear hc ek hp hpm
            have ht := Hno.out (by simp) p Hpm.out
            rw [ht] at hsc
            simp only [Bool.false_eq_true, if_false] at hsc
            clear ht
            go_wp2_with fail
            go_at_call 17
            refine hsc.mono ?_
            rintro r v5 ⟨rfl, l5, e5⟩
            have b5 := bx.trans (e5.mono bx.size)
            go_wp2_with fail
            go_roundw
            case rel => exact ⟨k + 1, by omega, rfl, by rw [Ek.out], b5⟩
            case measure => simp [intOf]; omega
          · have hkL : decide ((k : Int) < (T.l.length : Int)) = false := by rw [decide_eq_false_iff_not]; omega
            have hb3 := Hb2.out _ lx
            simp only [oneV, Option.isSome_none, Option.getD_none] at hb3
            have Hb3 := Lib.hid hb3
            have hE5 := hE4.below bx hE4.lt
            have HE5 := Lib.hid hE5
            clear hb3 hE5 hE4
            go_wp2_with fail
            go_at_call 15
            refine Hb3.out.mono ?_
            rintro r v6 ⟨rfl, l6, e6, s6⟩
            have hE6 := s6 _ _ _ hne (by decide) HE5.out
            have hEl := hE6.lt
            have n6 := (n4.trans (bx.mono l4.size)).trans e6
            have y0 := hE6.cell 0
            have y1 := hE6.cell 1
            have y2 := hE6.cell 2
            have y3 := hE6.cell 3
            simp at y0 y1 y2 y3
            have hq := eq35 (End.zero) (End.zero)
            rw [End.eqb_iff.2 rfl] at hq
            have l7 := l6.below ((Below.refl v6.heap.size v6).alloc (Nat.le_refl _) (.cells #[.bool (End.zero).v6, .int .u64 ((End.zero).hi : Int), .int .u64 ((End.zero).lo : Int), .int .u16 ((End.zero).port : Int)] 35))
            have n7 := n6.alloc l6.size (.cells #[.bool (End.zero).v6, .int .u64 ((End.zero).hi : Int), .int .u64 ((End.zero).lo : Int), .int .u16 ((End.zero).port : Int)] 35)
            have N7 := Lib.hid n7
            have L7 := Lib.hid l7
            clear n7 l7
            go_wp2_with (go_at_call 8; refine (alive_any _).mono ?_; rintro r v8 ⟨rfl, e8⟩)
            go_ret
            have g1 : w.heap.size ≤ W.heap.size := b.size
            exact ⟨rfl, (b.trans (N7.out.mono g1)).trans (e8.mono (Nat.le_trans g1 L7.out.size))⟩
      | some e =>
        have hb1 := Hb1.out
        simp only [oneV, Option.isSome_some, Option.getD_some] at hb1
        have Hb := Lib.hid hb1
        clear hb1 Hb1
        obtain ⟨m, q, hqm, hqe, hqt, hall⟩ := Hyes.out e rfl
        subst hqe
        have hqmem := List.mem_of_getElem? hqm
        have Hqm := Lib.hid hqm
        have Hqt := Lib.hid hqt
        have Hall := Lib.hid hall
        have Hqmem := Lib.hid hqmem
        clear hqm hqt hall hqmem
        go_wp2_with fail
        go_at_call 15
        refine Hb.out.mono ?_
        rintro r v1 ⟨rfl, l1, e1, _⟩
        have n1 := br.trans e1
        go_wp2_with fail
        have hE := Blk.new v1 35 #[.bool (q.e).v6, .int .u64 ((q.e).hi : Int), .int .u64 ((q.e).lo : Int), .int .u16 ((q.e).port : Int)]
        have l2 := l1.below ((Below.refl v1.heap.size v1).alloc (Nat.le_refl _) (.cells #[.bool (q.e).v6, .int .u64 ((q.e).hi : Int), .int .u64 ((q.e).lo : Int), .int .u16 ((q.e).port : Int)] 35))
        have n2 := n1.alloc l1.size (.cells #[.bool (q.e).v6, .int .u64 ((q.e).hi : Int), .int .u64 ((q.e).lo : Int), .int .u16 ((q.e).port : Int)] 35)
        have hne : v1.heap.size ≠ W.heap.size + 2 := by have := l1.blt; omega
        generalize v1.alloc (.cells #[.bool (q.e).v6, .int .u64 ((q.e).hi : Int), .int .u64 ((q.e).lo : Int), .int .u16 ((q.e).port : Int)] 35) = v2 at hE l2 n2 ⊢
        generalize hsb : v1.heap.size = sb at hE hne ⊢
        clear hsb e1 n1 l1
        have hs := e_score l2 Hiv.out (by omega) q.e now hnow
        rw [scoreV_own Hiv.out Hqm.out, Hqt.out] at hs
        simp only [if_true] at hs
        go_at_call 17
        refine hs.mono ?_
        rintro r v3 ⟨rfl, l3, e3⟩
        have n3 := n2.trans (e3.mono l2.size)
        have hE3 := hE.below e3 hE.lt
        go_wp2_with fail
        go_at_call 18
        refine (live_paths l3).mono ?_
        rintro r v4 ⟨A2, rfl, pc, l4, e4⟩
        have n4 := n3.trans (e4.mono l3.size)
        have hE4 := hE3.below e4 hE3.lt
        have hz4 := hz.below n4 hzl
        have hlen2 : T.l.length ≤ 64 := Nat.le_trans l4.lim.len l4.lim.most1
        clear l2 l3 n2 n3 e3 e4 hE hE3
        go_wp2_with fail
        go_loopw [16, 17] (fun v16 v17 wx => ∃ k : Nat, k ≤ T.l.length ∧ v16 = .bool ((T.l.take k).any fun p => there T p now) ∧ v17 = .int .i64 (k : Int) ∧ Below v4.heap.size v4 wx) (fun _ v17 _ => T.l.length - (intOf v17).toNat)
        case atStart => exact ⟨0, Nat.zero_le _, (by simp), rfl, Below.refl _ _⟩
        case round =>
          obtain ⟨k, hk, rfl, rfl, bx⟩ := hrel
          have lx := l4.below bx
          by_cases hkl : k < T.l.length
          · have hkL : (k : Int) < (T.l.length : Int) := by omega
            obtain ⟨p, hp⟩ : ∃ p, T.l[k]? = some p := ⟨T.l[k], List.getElem?_eq_getElem hkl⟩
            have hpm := List.mem_of_getElem? hp
            obtain ⟨g, rfl, hg0, hgl, hc⟩ := (pc.below bx) k p hp
            have q0 := hc 0 (by omega)
            have q1 := hc 1 (by omega)
            have q2 := hc 2 (by omega)
            have q3 := hc 3 (by omega)
            have q5 := hc 5 (by omega)
            have q6 := hc 6 (by omega)
            have q7 := hc 7 (by omega)
            simp [Pth.cells] at q0 q1 q2 q3 q5 q6 q7
            have hsc := e_score lx Hiv.out (by omega) p.e now hnow
            rw [scoreV_own Hiv.out hp] at hsc
            have hk0 : (0 : Int) ≤ (k : Int) := by omega
            have hk1 : (k : Int) < 64 := by omega
            have ek : ((k + 1 : Nat) : Int) = (k : Int) + 1 := by omega
            have Ek := Lib.hid ek
            have Hp := Lib.hid hp
            have Hpm := Lib.hid hpm
            clear hc ek hp hpm
            have han := any_take (now := now) Hp.out
            cases ht : there T p now with
            | false =>
              rw [ht] at hsc han
              simp only [Bool.false_eq_true, if_false] at hsc
              rw [Bool.or_false] at han
              have Han := Lib.hid han
              clear ht han
              go_wp2_with fail
              go_at_call 17
              refine hsc.mono ?_
              rintro r v5 ⟨rfl, l5, e5⟩
              have b5 := bx.trans (e5.mono bx.size)
              generalize hgy : ((T.l.take k).any fun p => there T p now) = ay at *
              cases ay with
              | false =>
                go_wp2_with fail
                go_roundw
                case rel => exact ⟨k + 1, by omega, by rw [Han.out], by rw [Ek.out], b5⟩
                case measure => simp [intOf]; omega
              | true =>
                go_wp2_with fail
                go_roundw
                case rel => exact ⟨k + 1, by omega, by rw [Han.out], by rw [Ek.out], b5⟩
                case measure => simp [intOf]; omega
            | true =>
              rw [ht] at hsc han
              simp only [if_true] at hsc
              rw [Bool.or_true] at han
              have hth : p.heard = true ∧ ago now p.last ≤ T.life ∧ p.lost < (T.losses : Int) := by
                unfold there at ht
                simpa [Bool.and_eq_true, decide_eq_true_eq] using ht
              rw [Hli.out, Hlo.out] at hth
              obtain ⟨hh, hag, hlst⟩ := hth
              have r1 := fun (w : World) => run_fquo (P := Try.prog) w 46 (Hfin.out.div q Hqmem.out)
              have r2 := fun (w : World) => run_fadd (P := Try.prog) w 46 (Hfin.out.add q Hqmem.out (sc p) (.inr ⟨p, Hpm.out, rfl⟩))
              have r3 := Hall.out p Hpm.out ht
              have r4 : (FloatKind.f64.format.order (plus (sc p) (eighth (sc q))) (sc q) == some Ordering.lt) = false := r3
              have Han := Lib.hid han
              have R1 := Lib.hid r1
              have R2 := Lib.hid r2
              have R4 := Lib.hid r4
              have hlast := Hiv.out.last p Hpm.out
              clear ht han r1 r2 r3 r4
              go_wp2_with fail
              go_at_call 17
              refine hsc.mono ?_
              rintro r v5 ⟨rfl, l5, e5⟩
              have b5 := bx.trans (e5.mono bx.size)
              obtain ⟨g', hg', _, _, hc⟩ := (pc.below b5) k p Hp.out
              obtain rfl : g = g' := by injection hg' with hg'; injection hg'
              have q5 := hc 5 (by omega)
              have q6 := hc 6 (by omega)
              have q7 := hc 7 (by omega)
              simp [Pth.cells] at q5 q6 q7
              rw [hh] at q5
              have hz5 := hz4.below b5 hz4.lt
              have z1 := hz5.cell 1
              have z2 := hz5.cell 2
              simp at z1 z2
              have hd1 : decide ((lo : Int) ≤ p.lost) = false := by rw [decide_eq_false_iff_not]; omega
              have r1 := R1.out
              have r2 := R2.out
              have r4 := R4.out
              clear hc hg' hh hz5
              generalize hgy : ((T.l.take k).any fun p => there T p now) = ay at *
              by_cases hln : p.last < now
              · have hd2 : decide (p.last < now) = true := decide_eq_true hln
                have hd2' : (p.last : Int) < (now : Int) := by omega
                have hw : IntKind.u64.wrap ((now : Int) - (p.last : Int)) = ((now - p.last : Nat) : Int) := by
                  have hn2 : now < 18446744073709551616 := hnow
                  rw [IntWalk.u64_in _ (by omega)]; omega
                have hd3 : decide (li < now - p.last) = false := by
                  rw [decide_eq_false_iff_not]
                  unfold ago at hag
                  omega
                cases ay with
                | false =>
                  go_wp2_with fail
                  go_quiet (fail)
                  go_wp2_with fail
                  go_roundw
                  case rel => exact ⟨k + 1, by omega, by rw [Han.out], by rw [Ek.out], ⟨b5.os, b5.tape, b5.output, b5.size, b5.block⟩⟩
                  case measure => simp [intOf]; omega
                | true =>
                  go_wp2_with fail
                  go_quiet (fail)
                  go_wp2_with fail
                  go_roundw
                  case rel => exact ⟨k + 1, by omega, by rw [Han.out], by rw [Ek.out], ⟨b5.os, b5.tape, b5.output, b5.size, b5.block⟩⟩
                  case measure => simp [intOf]; omega
              · have hd2 : decide (p.last < now) = false := decide_eq_false hln
                cases ay with
                | false =>
                  go_wp2_with fail
                  go_quiet (fail)
                  go_wp2_with fail
                  go_roundw
                  case rel => exact ⟨k + 1, by omega, by rw [Han.out], by rw [Ek.out], ⟨b5.os, b5.tape, b5.output, b5.size, b5.block⟩⟩
                  case measure => simp [intOf]; omega
                | true =>
                  go_wp2_with fail
                  go_quiet (fail)
                  go_wp2_with fail
                  go_roundw
                  case rel => exact ⟨k + 1, by omega, by rw [Han.out], by rw [Ek.out], ⟨b5.os, b5.tape, b5.output, b5.size, b5.block⟩⟩
                  case measure => simp [intOf]; omega
          · have hkL : decide ((k : Int) < (T.l.length : Int)) = false := by rw [decide_eq_false_iff_not]; omega
            have hb3 := Hb2.out _ lx
            simp only [oneV, Option.isSome_some, Option.getD_some] at hb3
            have Hb3 := Lib.hid hb3
            have hE5 := hE4.below bx hE4.lt
            have HE5 := Lib.hid hE5
            clear hb3 hE5 hE4
            have han : ((T.l.take k).any fun p => there T p now) = true := by
              rw [List.any_eq_true]
              refine ⟨q, ?_, Hqt.out⟩
              rw [List.take_of_length_le (by omega)]
              exact Hqmem.out
            rw [han]
            clear han
            go_wp2_with fail
            go_at_call 15
            refine Hb3.out.mono ?_
            rintro r v6 ⟨rfl, l6, e6, s6⟩
            have hE6 := s6 _ _ _ hne (by decide) HE5.out
            have hEl := hE6.lt
            have n6 := (n4.trans (bx.mono l4.size)).trans e6
            have y0 := hE6.cell 0
            have y1 := hE6.cell 1
            have y2 := hE6.cell 2
            have y3 := hE6.cell 3
            simp at y0 y1 y2 y3
            have hq := eq35 (q.e) (q.e)
            rw [End.eqb_iff.2 rfl] at hq
            have l7 := l6.below ((Below.refl v6.heap.size v6).alloc (Nat.le_refl _) (.cells #[.bool (q.e).v6, .int .u64 ((q.e).hi : Int), .int .u64 ((q.e).lo : Int), .int .u16 ((q.e).port : Int)] 35))
            have n7 := n6.alloc l6.size (.cells #[.bool (q.e).v6, .int .u64 ((q.e).hi : Int), .int .u64 ((q.e).lo : Int), .int .u16 ((q.e).port : Int)] 35)
            have N7 := Lib.hid n7
            have L7 := Lib.hid l7
            clear n7 l7
            go_wp2_with (go_at_call 8; refine (alive_any _).mono ?_; rintro r v8 ⟨rfl, e8⟩)
            go_ret
            have g1 : w.heap.size ≤ W.heap.size := b.size
            exact ⟨rfl, (b.trans (N7.out.mono g1)).trans (e8.mono (Nat.le_trans g1 L7.out.size))⟩

end Go.Proofs.Ytbopmcdmahabbaa
