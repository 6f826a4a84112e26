/- Tidy: the walk. -/
import Derived.Test.YtbopmcdmahabbaaPbA
namespace Go.Proofs.Ytbopmcdmahabbaa
open Go.RowKit

/- Those that are due, of what was seen. -/
def dueS (t : Tab) (now : Nat) (seen : Array Nat) (x : Ent) : Bool := due t now x && seen.contains x.born
def tidyN (t : Tab) (now : Nat) : Nat := t.pings.length - (t.tidy now).pings.length

def Tidied (b base cap m : Nat) (A U : Option Addr) (t : Tab) (now : Nat) (w : World) (r : Ending) (w' : World) : Prop :=
  r = .returned (.int .i64 (tidyN t now : Int)) ∧ TM w' b base A cap m U (t.tidy now) ∧ Keeps (TS b m A) w w'

def TLoop (b base cap m : Nat) (A U : Option Addr) (t : Tab) (now : Nat) (w : World) (v5 : Value) (wr : World) : Prop :=
  ∃ (n : Nat) (seen : Array Nat) (last : Nat), v5 = .int .i64 (n : Int) ∧ n + (t.tidyD (dueS t now seen)).pings.length = t.pings.length ∧ Iter wr w.heap.size m t.clock seen last ∧ t.clock ≤ last ∧ TM wr b base A cap m U (t.tidyD (dueS t now seen)) ∧ Keeps (TS b m A) w wr

theorem dueS_all {t : Tab} {now : Nat} {seen : Array Nat} (h : ∀ x ∈ (t.tidyD (dueS t now seen)).pings, x.born ∈ seen) : t.tidyD (dueS t now seen) = t.tidy now := by
  refine tidyD_congr fun x hx => ?_
  cases hs : seen.contains x.born with
  | true => simp only [dueS, hs, Bool.and_true]
  | false =>
    have h1 : dueS t now seen x = false := by simp only [dueS, hs, Bool.and_false]
    have h2 : x ∈ (t.tidyD (dueS t now seen)).pings := List.mem_filter.2 ⟨hx, by simp [h1]⟩
    have := h x h2
    simp [Array.contains_eq_mem, this] at hs

theorem dueS_push_same {t : Tab} {now : Nat} {seen : Array Nat} {y : Ent} (ok : t.Ok) (hy : y ∈ t.pings) (hd : due t now y = false) : t.tidyD (dueS t now (seen.push y.born)) = t.tidyD (dueS t now seen) := by
  refine tidyD_congr fun x hx => ?_
  by_cases hxy : x = y
  · subst hxy; simp [dueS, hd]
  · have : x.born ≠ y.born := fun e => hxy (inj_of_nodup ok.nodup hx hy e)
    simp [dueS, Array.contains_eq_mem, this]

theorem dueS_push_step {t : Tab} {now : Nat} {seen : Array Nat} {y : Ent} (ok : t.Ok) (hy : y ∈ t.pings) (hd : due t now y = true) (hs : y.born ∉ seen) {i : Nat} {p : Pth} (hf : findI t.l y.e = some i) (hp : t.l[i]? = some p) :
    (t.tidyD (dueS t now seen)).l[i]? = some p ∧ ((t.tidyD (dueS t now seen)).quiet y.e).setP i { p with lost := p.lost + 1 } = t.tidyD (dueS t now (seen.push y.born)) := by
  refine tidyD_step ok hy (by simp [dueS, Array.contains_eq_mem, hs]) (by simp [dueS, Array.contains_eq_mem, hd]) (fun x hx hxy => ?_) hf hp
  have : x.born ≠ y.born := fun e => hxy (inj_of_nodup ok.nodup hx hy e)
  simp [dueS, Array.contains_eq_mem, this]

theorem quiet_len {t : Tab} (ok : t.Ok) {y : Ent} (hy : y ∈ t.pings) : (t.quiet y.e).pings.length + 1 = t.pings.length := by
  obtain ⟨j, _, hj⟩ := ok.at_ hy
  have hlt : j < t.pings.length := by
    rcases Nat.lt_or_ge j t.pings.length with h | h
    · exact h
    · rw [List.getElem?_eq_none h] at hj; cases hj
  rw [← ok.erase_end hj, List.length_eraseIdx]
  simp [hlt]
  omega

theorem Keeps.trans' {S T : Nat → Prop} {a b c : World} (h : Keeps S a b) (k : Keeps T b c) (hT : ∀ i, i < a.heap.size → T i → S i) : Keeps S a c :=
  ⟨k.os.trans h.os, k.tape.trans h.tape, k.output.trans h.output, Nat.le_trans h.size k.size, fun i hi hs => (k.block i (Nat.lt_of_lt_of_le hi h.size) (fun ht => hs (hT i hi ht))).trans (h.block i hi hs)⟩

set_option maxHeartbeats 2000000 in
set_option maxRecDepth 100000 in
theorem tidy_any {w : World} {b base cap m : Nat} {A U : Option Addr} {t : Tab} (h : TM w b base A cap m U t) (ok : t.Ok) (now : Nat) (hn : now < 18446744073709551616) (hat : ∀ x ∈ t.pings, x.at_ < 18446744073709551616) (hlost : ∀ p ∈ t.l, 0 ≤ p.lost ∧ p.lost < 1000) (hpl : t.pings.length < 1000000) :
    Calls Try.prog 14 #[.pointer (some ⟨b, 0, none⟩), .int .u64 (now : Int)] w (Tidied b base cap m A U t now w) := by
  obtain ⟨c0, c1, c2, c3, c4, c5, c6⟩ := h.cells
  have hrg := run_range_sm (P := Try.prog) Try.underlying65 h.map
  have hI := iter_new w m t.clock
  have HI := Lib.hid hI
  have hm1 := h.map.lt
  clear hI
  go_enter Try.func14, Try.ntmps14
  go_wp2_with (go_at_call 24; refine (tnone_some c5).mono ?_; rintro r w' ⟨rfl, rfl⟩)
  go_loopw [5, 15] (fun v5 _ wr => TLoop b base cap m A U t now w v5 wr)
    (fun _ _ wr => unseen (t.pings.map Ent.se) w.heap.size wr)
  case atStart =>
    have e0 : t.tidyD (dueS t now #[]) = t := tidyD_none fun x _ => by simp [dueS]
    exact ⟨0, #[], t.clock, rfl, by rw [e0]; omega, HI.out, Nat.le_refl _, by rw [e0]; exact h.alloc _, (Keeps.refl _ w).alloc _⟩
  case round =>
    obtain ⟨n, seen, last, rfl, hcnt, hit, hle, hT, hK⟩ := hrel
    have hmT := hT.map
    have okT := ok.tidyD (dueS t now seen)
    have Hit := Lib.hid hit
    have HT := Lib.hid hT
    have hn1 : (n : Int) < 1000000 := by omega
    rcases next_sm (P := Try.prog) 0 hit hmT okT.hold hle okT.nd with ⟨hall, hrun⟩ | ⟨x, hx, hns, W, hrun, hent, hk, hit2, hm2⟩
    · have hfin := dueS_all (t := t) (now := now) (seen := seen) (fun x hx => hall x.se (List.mem_map_of_mem hx))
      have Hfin := Lib.hid hfin
      have Hcnt := Lib.hid hcnt
      clear hit hall hT hmT hfin hcnt
      go_wp2_with fail
      go_ret
      refine ⟨?_, by rw [← Hfin.out]; exact HT.out, hK⟩
      have : tidyN t now = n := by
        have := Hcnt.out
        rw [Hfin.out] at this
        unfold tidyN
        omega
      rw [this]
      rfl
    · clear hit
      obtain ⟨y, hy, rfl⟩ := se_mem hx
      obtain ⟨hyt, hyD⟩ := List.mem_filter.1 hy
      have hl1 := h.blk.lt
      have hTW := hT.keep hk (show ¬ b = w.heap.size by omega) (show ¬ m = w.heap.size by omega) (fun g hg => show ¬ g = w.heap.size by have := (h.own_lt g hg).2; omega) (fun u hu => show ¬ u.block = w.heap.size by have := h.used_lt u hu; omega)
      have hT1 := hTW.alloc (.cells #[.bool y.e.v6, .int .u64 (y.e.hi : Int), .int .u64 (y.e.lo : Int), .int .u16 (y.e.port : Int), .int .u64 (y.at_ : Int)] 73)
      have hP := Blk.new W 73 #[.bool y.e.v6, .int .u64 (y.e.hi : Int), .int .u64 (y.e.lo : Int), .int .u16 (y.e.port : Int), .int .u64 (y.at_ : Int)]
      obtain ⟨d0, d1, d2, d3, d4, d5, d6⟩ := hT1.cells
      have hlW := hTW.blk.lt
      replace d0 : (W.alloc (.cells #[.bool y.e.v6, .int .u64 (y.e.hi : Int), .int .u64 (y.e.lo : Int), .int .u16 (y.e.port : Int), .int .u64 (y.at_ : Int)] 73)).cell? ⟨b, 0, none⟩ = some (.int .u64 (t.wait : Int)) := d0
      have HyD := Lib.hid hyD
      have HTW := Lib.hid hTW
      clear hyD d1 d2 d3 d4 d6 c0 c1 c2 c3 c4 c6 hTW
      have haty := hat y hyt
      have hKW : Keeps (TS b m A) w W := hK.trans' hk (fun k hlt hk => by subst hk; omega)
      unfold Ent.se pingVal at hrun hent
      simp only at hrun hent
      have p4 := hP.cell 4
      simp at p4
      have Hns := Lib.hid hns
      have Hit2 := Lib.hid hit2
      have Hcnt := Lib.hid hcnt
      have Hx := Lib.hid hx
      have Hk := Lib.hid hk
      have HT1 := Lib.hid hT1
      clear hns hit2 hcnt hx hk hT1 hT hmT
      cases hdue : due t now y with
      | false =>
        have hd : decide (t.wait < ago now y.at_) = false := hdue
        have Hdue := Lib.hid hdue
        clear hdue
        go_wp2_with fail
        go_quiet ((go_at_call 27; exact quiet_left (ago_any now y.at_ _ hn haty)))
        go_wp2_with fail
        have e1 := dueS_push_same (now := now) (seen := seen) ok hyt Hdue.out
        have hit3 : Iter ((W.alloc (.cells #[.bool y.e.v6, .int .u64 (y.e.hi : Int), .int .u64 (y.e.lo : Int), .int .u16 (y.e.port : Int), .int .u64 (y.at_ : Int)] 73)).drewN nq) w.heap.size m t.clock (seen.push y.born) t.clock := (Below.heap_alloc W _ _ Hit2.out.lt).trans Hit2.out
        refine ⟨⟨n, seen.push y.born, t.clock, rfl, by rw [e1]; exact Hcnt.out, hit3, Nat.le_refl _, by rw [e1]; exact HT1.out.drewN _, (hKW.alloc _).drewN _⟩, ?_⟩
        rw [unseen_eq Hit.out, unseen_eq hit3]
        exact unseen_lt (List.mem_map_of_mem hyt) Hns.out
      | true =>
        obtain ⟨i, p, hf, hp⟩ := ok.findI hyt
        obtain ⟨hpT, hstep⟩ := dueS_push_step (now := now) ok hyt hdue Hns.out hf hp
        obtain ⟨g, rfl, _, hgl, _⟩ := h.row.at_ hp
        obtain ⟨j, hj, hjx⟩ := okT.at_ hy
        obtain ⟨W2, _, hdel, hk2, hm3⟩ := delete_sm (P := Try.prog) Try.underlying65 Try.underlying9 HT1.out.map y.tx hj
        rw [map_erase, okT.erase_end hjx] at hm3
        have h3 := HT1.out.turned hk2 hm3
        have hmW := HTW.out.map.lt
        have hP2 := hP.keep hk2 (show ¬ W.heap.size = m by omega)
        have z0 := hP2.cell 0
        have z1 := hP2.cell 1
        have z2 := hP2.cell 2
        have z3 := hP2.cell 3
        simp at z0 z1 z2 z3
        have HFD : ∀ n, Calls Try.prog 25 #[.pointer (some ⟨b, 0, none⟩), .agg #[.bool y.e.v6, .int .u64 (y.e.hi : Int), .int .u64 (y.e.lo : Int), .int .u16 (y.e.port : Int)]] (W2.drewN n) fun r w' => r = .returned (.pointer (some ⟨g, i * 8, none⟩)) ∧ Below W2.heap.size W2 w' := by
          intro n
          refine (find_yes (h3.drewN n) y.e (show findI (bumpL t.l t.pings (dueS t now seen)) y.e = some i from (bumpL_find _ _ _ _).trans hf) rfl).mono ?_
          rintro r w' ⟨hr, hb⟩
          exact ⟨hr, ⟨hb.os, hb.tape, hb.output, hb.size, hb.block⟩⟩
        have hlo := hlost p (List.mem_of_getElem? hp)
        have hlo0 := hlo.1
        have hlo1 := hlo.2
        have Hk2 := Lib.hid hk2
        have H3 := Lib.hid h3
        have HpT := Lib.hid hpT
        have Hstep := Lib.hid hstep
        have Hf := Lib.hid hf
        have Hp := Lib.hid hp
        have c5' := h3.cells.2.2.2.2.2.1
        clear hj hjx hk2 h3 hm3 hpT hstep hf hp hlo
        have hd : decide (t.wait < ago now y.at_) = true := hdue
        have Hdue := Lib.hid hdue
        clear hdue
        go_wp2_with fail
        go_quiet ((go_at_call 27; exact quiet_left (ago_any now y.at_ _ hn haty)))
        go_wp2_with fail
        go_at_call 25
        refine (HFD nq).mono ?_
        rintro r W3 ⟨rfl, hb3⟩
        have h4 := H3.out.below hb3
        obtain ⟨g', hg', _, hg2, hgc⟩ := h4.row.at_ (show (t.tidyD (dueS t now seen)).l[i]? = some p from HpT.out)
        obtain rfl : g = g' := by injection hg' with hg'; injection hg'
        have q7 := hgc 7 (by omega)
        simp [Pth.cells] at q7
        have f7 := h4.pfrozen (i * 8 + 7)
        clear hgc hg'
        have H4 := Lib.hid h4
        clear h4
        go_wp2_with fail
        have hit3 : Iter W2 w.heap.size m t.clock (seen.push y.born) t.clock := (Hk2.out.block _ (Nat.lt_of_lt_of_le Hit2.out.lt (by simp)) (show ¬ w.heap.size = m by omega)).trans ((Below.heap_alloc W _ _ Hit2.out.lt).trans Hit2.out)
        have hit4 : Iter W3 w.heap.size m t.clock (seen.push y.born) t.clock := (hb3.block _ hit3.lt).trans hit3
        have hit5 : Iter (W3.setCell ⟨g, i * 8 + 7, none⟩ (.int .i64 (p.lost + 1))) w.heap.size m t.clock (seen.push y.born) t.clock := (Below.heap_setCell W3 ⟨g, i * 8 + 7, none⟩ _ _ (show w.heap.size ≠ g by omega)).trans hit4
        have hs := H4.out.setPath (i := i) (j := 7) (p := p) (p' := { p with lost := p.lost + 1 }) (v := .int .i64 (p.lost + 1)) HpT.out (by omega) rfl
        have hql := quiet_len okT hy
        have hfin : TM (W3.setCell ⟨g, i * 8 + 7, none⟩ (.int .i64 (p.lost + 1))) b base (some ⟨g, 0, none⟩) cap m U (t.tidyD (dueS t now (seen.push y.born))) := by
          rw [← Hstep.out]
          exact hs.1
        have hc2 : n + 1 + (t.tidyD (dueS t now (seen.push y.born))).pings.length = t.pings.length := by
          rw [← Hstep.out]
          have := Hcnt.out
          show n + 1 + ((t.tidyD (dueS t now seen)).quiet y.e).pings.length = _
          omega
        have k1 := (hKW.alloc (.cells #[.bool y.e.v6, .int .u64 (y.e.hi : Int), .int .u64 (y.e.lo : Int), .int .u16 (y.e.port : Int), .int .u64 (y.at_ : Int)] 73)).trans' Hk2.out (fun k _ hk => .inr (.inl hk))
        have k2 := (k1.trans' (T := fun _ => False) (Keeps.of_below hb3 fun k hk _ => hk) (fun _ _ h => h.elim)).setCell (p := ⟨g, i * 8 + 7, none⟩) (.inl (.inr (.inr rfl))) (.int .i64 (p.lost + 1))
        refine ⟨⟨n + 1, seen.push y.born, t.clock, rfl, hc2, hit5, Nat.le_refl _, hfin, k2⟩, ?_⟩
        rw [unseen_eq Hit.out, unseen_eq hit5]
        exact unseen_lt (List.mem_map_of_mem hyt) Hns.out

end Go.Proofs.Ytbopmcdmahabbaa
