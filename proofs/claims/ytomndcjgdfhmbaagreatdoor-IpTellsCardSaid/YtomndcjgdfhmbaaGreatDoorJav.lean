/- Joined out of: LwC. -/
import Derived.Test.YtomndcjgdfhmbaaGreatDoorJas
set_option linter.unusedVariables false
set_option linter.unusedSimpArgs false

/- IpTells: the walk. (Printed by lw_tells.py.) -/
namespace Go.Proofs.YtomndcjgdfhmbaaGreatDoor
open Go.RowKit
attribute [local go_sem ↓] Go.wp_at_zero Go.wp_at_succ

theorem preadV_form (o : Option Pf) : ∃ (p : Pf) (e : Nat), preadV o = .tuple #[.agg #[.bool p.a.v6, .int .u64 (p.a.hi : Int), .int .u64 (p.a.lo : Int), .int .u8 (p.bits : Int)], .int .i64 (e : Int)] := by
  cases o with
  | none => exact ⟨⟨⟨false, 0, 0⟩, 0⟩, 8, rfl⟩
  | some p => exact ⟨p, 0, rfl⟩

set_option maxHeartbeats 16000000 in
set_option maxRecDepth 100000 in
theorem tells_any {w : World} (env : Env w) (s : ByteArray) (a : Ad) (oka : a.Ok) (b : Ad) (okb : b.Ok) (p : Pf) (okp : p.Ok) : Calls Tryz.prog 7 #[.string s, .agg a.cells, .agg b.cells, .agg p.cells] w (Got (.bool true) w) := by
  have HWK := Lib.hid fun v (hv : Below w.heap.size w v) => works_any (env.below hv)
  have hrd := fun hs v (hv : Below w.heap.size w v) => read_any (env.below hv) s hs
  have hrr := fun hs v (hv : Below w.heap.size w v) => rread_any (env.below hv) s hs
  have hpd := fun hs v (hv : Below w.heap.size w v) => readPrefix_any (env.below hv) s hs
  have hpr := fun hs v (hv : Below w.heap.size w v) => rreadPrefix_any (env.below hv) s hs
  have htx := fun v (hv : Below w.heap.size w v) => text_any (env.below hv) a oka
  have htr := fun v (hv : Below w.heap.size w v) => rtext_any (env.below hv) a oka
  have hpt := fun v (hv : Below w.heap.size w v) => prefixText_any (env.below hv) p okp
  have hps := fun v (hv : Below w.heap.size w v) => rprefixText_any (env.below hv) p okp
  have hmp := fun v => mayPrefix_any p okp v
  have hmr := fun v => rmayPrefix_any p okp v
  have hho := fun v => holds_any p a okp oka v
  have hhr := fun v => rholds_any p a okp oka v
  have hle := fun v => less_any a b v
  have hlr := fun v => rless_any a b v
  generalize textB a = TXT at htx htr
  generalize ptextB p = PTXT at hpt hps
  generalize pmay p = PM at hmp hmr
  generalize holdsP p a = HO at hho hhr
  generalize lessA a b = LE at hle hlr
  obtain ⟨r1, er, _, hv1, _⟩ := readV_form (readL s.data.toList) (fun a h => (readL_some h).2.1)
  obtain ⟨q1, eq, hv2⟩ := preadV_form (preadL s.data.toList)
  rw [hv1] at hrd hrr
  rw [hv2] at hpd hpr
  clear hv1 hv2
  obtain ⟨rv, rh, rl⟩ := r1
  obtain ⟨⟨qv, qh, ql⟩, qn⟩ := q1
  obtain ⟨av, ah, al⟩ := a
  obtain ⟨bv, bh, bl⟩ := b
  obtain ⟨⟨pv, ph, pl⟩, pn⟩ := p
  unfold Ad.cells Pf.cells at *
  simp only at hrd hrr hpd hpr htx htr hpt hps hmp hmr hho hhr hle hlr ⊢
  have ha := ((Blk.new w 24 #[.bool av, .int .u64 (ah : Int), .int .u64 (al : Int)]).alloc (.cells #[.bool bv, .int .u64 (bh : Int), .int .u64 (bl : Int)] 24)).alloc (.cells #[.bool pv, .int .u64 (ph : Int), .int .u64 (pl : Int), .int .u8 (pn : Int)] 39)
  have hb : Blk (((w.alloc (.cells #[.bool av, .int .u64 (ah : Int), .int .u64 (al : Int)] 24)).alloc (.cells #[.bool bv, .int .u64 (bh : Int), .int .u64 (bl : Int)] 24)).alloc (.cells #[.bool pv, .int .u64 (ph : Int), .int .u64 (pl : Int), .int .u8 (pn : Int)] 39)) (w.heap.size + 1) 24 #[.bool bv, .int .u64 (bh : Int), .int .u64 (bl : Int)] := by
    have h := (Blk.new (w.alloc (.cells #[.bool av, .int .u64 (ah : Int), .int .u64 (al : Int)] 24)) 24 #[.bool bv, .int .u64 (bh : Int), .int .u64 (bl : Int)]).alloc (.cells #[.bool pv, .int .u64 (ph : Int), .int .u64 (pl : Int), .int .u8 (pn : Int)] 39)
    simpa using h
  have hp : Blk (((w.alloc (.cells #[.bool av, .int .u64 (ah : Int), .int .u64 (al : Int)] 24)).alloc (.cells #[.bool bv, .int .u64 (bh : Int), .int .u64 (bl : Int)] 24)).alloc (.cells #[.bool pv, .int .u64 (ph : Int), .int .u64 (pl : Int), .int .u8 (pn : Int)] 39)) (w.heap.size + 1 + 1) 39 #[.bool pv, .int .u64 (ph : Int), .int .u64 (pl : Int), .int .u8 (pn : Int)] := by
    have h := Blk.new ((w.alloc (.cells #[.bool av, .int .u64 (ah : Int), .int .u64 (al : Int)] 24)).alloc (.cells #[.bool bv, .int .u64 (bh : Int), .int .u64 (bl : Int)] 24)) 39 #[.bool pv, .int .u64 (ph : Int), .int .u64 (pl : Int), .int .u8 (pn : Int)]
    simpa using h
  have hv := after (two_boxed w (.cells #[.bool av, .int .u64 (ah : Int), .int .u64 (al : Int)] 24) (.cells #[.bool bv, .int .u64 (bh : Int), .int .u64 (bl : Int)] 24)) (boxed ((w.alloc (.cells #[.bool av, .int .u64 (ah : Int), .int .u64 (al : Int)] 24)).alloc (.cells #[.bool bv, .int .u64 (bh : Int), .int .u64 (bl : Int)] 24)) (.cells #[.bool pv, .int .u64 (ph : Int), .int .u64 (pl : Int), .int .u8 (pn : Int)] 39))
  have Ha := Lib.hid ha
  have Hb := Lib.hid hb
  have Hp := Lib.hid hp
  have Hv := Lib.hid hv
  have HTX := Lib.hid htx
  have HTR := Lib.hid htr
  have HPT := Lib.hid hpt
  have HPS := Lib.hid hps
  have HMP := Lib.hid hmp
  have HMR := Lib.hid hmr
  have HHO := Lib.hid hho
  have HHR := Lib.hid hhr
  have HLE := Lib.hid hle
  have HLR := Lib.hid hlr
  clear ha hb hp hv htx htr hpt hps hmp hmr hho hhr hle hlr env oka okb okp
  by_cases hbig : s.size ≤ 4096
  · have q1 : ¬ (4096 : Int) < (s.size : Int) := by omega
    have HRD := Lib.hid (hrd (by omega))
    have HRR := Lib.hid (hrr (by omega))
    have HPD := Lib.hid (hpd (by omega))
    have HPR := Lib.hid (hpr (by omega))
    clear hrd hrr hpd hpr hbig
    go_enter Tryz.func7, Tryz.ntmps7
    go_upto_region 3 with fail
    generalize ((w.alloc (.cells #[.bool av, .int .u64 (ah : Int), .int .u64 (al : Int)] 24)).alloc (.cells #[.bool bv, .int .u64 (bh : Int), .int .u64 (bl : Int)] 24)).alloc (.cells #[.bool pv, .int .u64 (ph : Int), .int .u64 (pl : Int), .int .u8 (pn : Int)] 39) = w0 at Ha Hb Hp Hv ⊢
    have HRD1 := Lib.hid (HRD.out _ Hv.out)
    go_wp2_with fail
    go_at_call 18
    refine HRD1.out.mono ?_
    rintro r w1 ⟨rfl, d1⟩
    have ha := (Ha.out.below d1 Ha.out.lt).alloc (.cells #[.bool rv, .int .u64 (rh : Int), .int .u64 (rl : Int)] 24)
    have hb := (Hb.out.below d1 Hb.out.lt).alloc (.cells #[.bool rv, .int .u64 (rh : Int), .int .u64 (rl : Int)] 24)
    have hp := (Hp.out.below d1 Hp.out.lt).alloc (.cells #[.bool rv, .int .u64 (rh : Int), .int .u64 (rl : Int)] 24)
    have hr := Blk.new w1 24 #[.bool rv, .int .u64 (rh : Int), .int .u64 (rl : Int)]
    have hv := after (after Hv.out d1) (boxed w1 (.cells #[.bool rv, .int .u64 (rh : Int), .int .u64 (rl : Int)] 24))
    clear Ha Hb Hp Hv d1
    go_upto_region 4 with fail
    generalize w1.alloc (.cells #[.bool rv, .int .u64 (rh : Int), .int .u64 (rl : Int)] 24) = w2 at ha hb hp hr hv ⊢
    generalize w1.heap.size = g3 at hr ⊢
    have HRR1 := Lib.hid (HRR.out _ hv)
    have Ha := Lib.hid ha
    have Hb := Lib.hid hb
    have Hp := Lib.hid hp
    have Hr := Lib.hid hr
    have Hv := Lib.hid hv
    clear ha hb hp hr hv
    go_wp2_with fail
    go_at_call 23
    refine HRR1.out.mono ?_
    rintro r w3 ⟨rfl, d3⟩
    have ha := (Ha.out.below d3 Ha.out.lt).alloc (.cells #[.bool rv, .int .u64 (rh : Int), .int .u64 (rl : Int)] 24)
    have hb := (Hb.out.below d3 Hb.out.lt).alloc (.cells #[.bool rv, .int .u64 (rh : Int), .int .u64 (rl : Int)] 24)
    have hp := (Hp.out.below d3 Hp.out.lt).alloc (.cells #[.bool rv, .int .u64 (rh : Int), .int .u64 (rl : Int)] 24)
    have hr := (Hr.out.below d3 Hr.out.lt).alloc (.cells #[.bool rv, .int .u64 (rh : Int), .int .u64 (rl : Int)] 24)
    have hs := Blk.new w3 24 #[.bool rv, .int .u64 (rh : Int), .int .u64 (rl : Int)]
    have hv := after (after Hv.out d3) (boxed w3 (.cells #[.bool rv, .int .u64 (rh : Int), .int .u64 (rl : Int)] 24))
    clear Ha Hb Hp Hr Hv d3
    go_upto_region 5 with fail
    generalize w3.alloc (.cells #[.bool rv, .int .u64 (rh : Int), .int .u64 (rl : Int)] 24) = w4 at ha hb hp hr hs hv ⊢
    generalize w3.heap.size = g4 at hs ⊢
    have HPD1 := Lib.hid (HPD.out _ hv)
    have Ha := Lib.hid ha
    have Hb := Lib.hid hb
    have Hp := Lib.hid hp
    have Hr := Lib.hid hr
    have Hs := Lib.hid hs
    have Hv := Lib.hid hv
    clear ha hb hp hr hs hv
    go_wp2_with fail
    go_at_call 20
    refine HPD1.out.mono ?_
    rintro r w5 ⟨rfl, d5⟩
    have ha := (Ha.out.below d5 Ha.out.lt).alloc (.cells #[.bool qv, .int .u64 (qh : Int), .int .u64 (ql : Int), .int .u8 (qn : Int)] 39)
    have hb := (Hb.out.below d5 Hb.out.lt).alloc (.cells #[.bool qv, .int .u64 (qh : Int), .int .u64 (ql : Int), .int .u8 (qn : Int)] 39)
    have hp := (Hp.out.below d5 Hp.out.lt).alloc (.cells #[.bool qv, .int .u64 (qh : Int), .int .u64 (ql : Int), .int .u8 (qn : Int)] 39)
    have hr := (Hr.out.below d5 Hr.out.lt).alloc (.cells #[.bool qv, .int .u64 (qh : Int), .int .u64 (ql : Int), .int .u8 (qn : Int)] 39)
    have hs := (Hs.out.below d5 Hs.out.lt).alloc (.cells #[.bool qv, .int .u64 (qh : Int), .int .u64 (ql : Int), .int .u8 (qn : Int)] 39)
    have hq := Blk.new w5 39 #[.bool qv, .int .u64 (qh : Int), .int .u64 (ql : Int), .int .u8 (qn : Int)]
    have hv := after (after Hv.out d5) (boxed w5 (.cells #[.bool qv, .int .u64 (qh : Int), .int .u64 (ql : Int), .int .u8 (qn : Int)] 39))
    clear Ha Hb Hp Hr Hs Hv d5
    go_upto_region 6 with fail
    generalize w5.alloc (.cells #[.bool qv, .int .u64 (qh : Int), .int .u64 (ql : Int), .int .u8 (qn : Int)] 39) = w6 at ha hb hp hr hs hq hv ⊢
    generalize w5.heap.size = g5 at hq ⊢
    have HPR1 := Lib.hid (HPR.out _ hv)
    have Ha := Lib.hid ha
    have Hb := Lib.hid hb
    have Hp := Lib.hid hp
    have Hr := Lib.hid hr
    have Hs := Lib.hid hs
    have Hq := Lib.hid hq
    have Hv := Lib.hid hv
    clear ha hb hp hr hs hq hv
    go_wp2_with fail
    go_at_call 24
    refine HPR1.out.mono ?_
    rintro r w7 ⟨rfl, d7⟩
    have ha := (Ha.out.below d7 Ha.out.lt).alloc (.cells #[.bool qv, .int .u64 (qh : Int), .int .u64 (ql : Int), .int .u8 (qn : Int)] 39)
    have hb := (Hb.out.below d7 Hb.out.lt).alloc (.cells #[.bool qv, .int .u64 (qh : Int), .int .u64 (ql : Int), .int .u8 (qn : Int)] 39)
    have hp := (Hp.out.below d7 Hp.out.lt).alloc (.cells #[.bool qv, .int .u64 (qh : Int), .int .u64 (ql : Int), .int .u8 (qn : Int)] 39)
    have hr := (Hr.out.below d7 Hr.out.lt).alloc (.cells #[.bool qv, .int .u64 (qh : Int), .int .u64 (ql : Int), .int .u8 (qn : Int)] 39)
    have hs := (Hs.out.below d7 Hs.out.lt).alloc (.cells #[.bool qv, .int .u64 (qh : Int), .int .u64 (ql : Int), .int .u8 (qn : Int)] 39)
    have hq := (Hq.out.below d7 Hq.out.lt).alloc (.cells #[.bool qv, .int .u64 (qh : Int), .int .u64 (ql : Int), .int .u8 (qn : Int)] 39)
    have ht := Blk.new w7 39 #[.bool qv, .int .u64 (qh : Int), .int .u64 (ql : Int), .int .u8 (qn : Int)]
    have hv := after (after Hv.out d7) (boxed w7 (.cells #[.bool qv, .int .u64 (qh : Int), .int .u64 (ql : Int), .int .u8 (qn : Int)] 39))
    clear Ha Hb Hp Hr Hs Hq Hv d7
    go_upto_region 7 with fail
    generalize w7.alloc (.cells #[.bool qv, .int .u64 (qh : Int), .int .u64 (ql : Int), .int .u8 (qn : Int)] 39) = w8 at ha hb hp hr hs hq ht hv ⊢
    generalize w7.heap.size = g6 at ht ⊢
    clear HRD HRR HPD HPR HRD1 HRR1 HPD1 HPR1
    go_wp2_with fail
    have ha := ha.drew
    have hb := hb.drew
    have hp := hp.drew
    have hr := hr.drew
    have hs := hs.drew
    have hq := hq.drew
    have ht := ht.drew
    have hv := hv.drew
    have ca0 := ha.cell 0
    have ca1 := ha.cell 1
    have ca2 := ha.cell 2
    have cb0 := hb.cell 0
    have cb1 := hb.cell 1
    have cb2 := hb.cell 2
    have cp0 := hp.cell 0
    have cp1 := hp.cell 1
    have cp2 := hp.cell 2
    have cp3 := hp.cell 3
    have cr0 := hr.cell 0
    have cr1 := hr.cell 1
    have cr2 := hr.cell 2
    have cs0 := hs.cell 0
    have cs1 := hs.cell 1
    have cs2 := hs.cell 2
    have cq0 := hq.cell 0
    have cq1 := hq.cell 1
    have cq2 := hq.cell 2
    have cq3 := hq.cell 3
    have ct0 := ht.cell 0
    have ct1 := ht.cell 1
    have ct2 := ht.cell 2
    have ct3 := ht.cell 3
    simp at ca0 ca1 ca2 cb0 cb1 cb2 cp0 cp1 cp2 cp3 cr0 cr1 cr2 cs0 cs1 cs2 cq0 cq1 cq2 cq3 ct0 ct1 ct2 ct3
    go_region_held3 (fun w' => w'.cell? ⟨w.heap.size, 0, none⟩ = some (.bool av) ∧ w'.cell? ⟨w.heap.size, 1, none⟩ = some (.int .u64 (ah : Int)) ∧ w'.cell? ⟨w.heap.size, 2, none⟩ = some (.int .u64 (al : Int)) ∧ w'.cell? ⟨w.heap.size + 1, 0, none⟩ = some (.bool bv) ∧ w'.cell? ⟨w.heap.size + 1, 1, none⟩ = some (.int .u64 (bh : Int)) ∧ w'.cell? ⟨w.heap.size + 1, 2, none⟩ = some (.int .u64 (bl : Int)) ∧ w'.cell? ⟨w.heap.size + 1 + 1, 0, none⟩ = some (.bool pv) ∧ w'.cell? ⟨w.heap.size + 1 + 1, 1, none⟩ = some (.int .u64 (ph : Int)) ∧ w'.cell? ⟨w.heap.size + 1 + 1, 2, none⟩ = some (.int .u64 (pl : Int)) ∧ w'.cell? ⟨w.heap.size + 1 + 1, 3, none⟩ = some (.int .u8 (pn : Int)) ∧ w'.cell? ⟨g3, 0, none⟩ = some (.bool rv) ∧ w'.cell? ⟨g3, 1, none⟩ = some (.int .u64 (rh : Int)) ∧ w'.cell? ⟨g3, 2, none⟩ = some (.int .u64 (rl : Int)) ∧ w'.cell? ⟨g4, 0, none⟩ = some (.bool rv) ∧ w'.cell? ⟨g4, 1, none⟩ = some (.int .u64 (rh : Int)) ∧ w'.cell? ⟨g4, 2, none⟩ = some (.int .u64 (rl : Int)) ∧ w'.cell? ⟨g5, 0, none⟩ = some (.bool qv) ∧ w'.cell? ⟨g5, 1, none⟩ = some (.int .u64 (qh : Int)) ∧ w'.cell? ⟨g5, 2, none⟩ = some (.int .u64 (ql : Int)) ∧ w'.cell? ⟨g5, 3, none⟩ = some (.int .u8 (qn : Int)) ∧ w'.cell? ⟨g6, 0, none⟩ = some (.bool qv) ∧ w'.cell? ⟨g6, 1, none⟩ = some (.int .u64 (qh : Int)) ∧ w'.cell? ⟨g6, 2, none⟩ = some (.int .u64 (ql : Int)) ∧ w'.cell? ⟨g6, 3, none⟩ = some (.int .u8 (qn : Int)))
      (exact ⟨ca0, ca1, ca2, cb0, cb1, cb2, cp0, cp1, cp2, cp3, cr0, cr1, cr2, cs0, cs1, cs2, cq0, cq1, cq2, cq3, ct0, ct1, ct2, ct3⟩)
      (first
        | (go_at_call 19; (with_reducible refine (HTX.out _ hv).mono ?_); rintro r wq ⟨rfl, gq⟩; have hv := after hv gq; have ha := ha.below gq ha.lt; have hb := hb.below gq hb.lt; have hp := hp.below gq hp.lt; have hr := hr.below gq hr.lt; have hs := hs.below gq hs.lt; have hq := hq.below gq hq.lt; have ht := ht.below gq ht.lt; clear gq; have ca0 := ha.cell 0; have ca1 := ha.cell 1; have ca2 := ha.cell 2; have cb0 := hb.cell 0; have cb1 := hb.cell 1; have cb2 := hb.cell 2; have cp0 := hp.cell 0; have cp1 := hp.cell 1; have cp2 := hp.cell 2; have cp3 := hp.cell 3; have cr0 := hr.cell 0; have cr1 := hr.cell 1; have cr2 := hr.cell 2; have cs0 := hs.cell 0; have cs1 := hs.cell 1; have cs2 := hs.cell 2; have cq0 := hq.cell 0; have cq1 := hq.cell 1; have cq2 := hq.cell 2; have cq3 := hq.cell 3; have ct0 := ht.cell 0; have ct1 := ht.cell 1; have ct2 := ht.cell 2; have ct3 := ht.cell 3; simp at ca0 ca1 ca2 cb0 cb1 cb2 cp0 cp1 cp2 cp3 cr0 cr1 cr2 cs0 cs1 cs2 cq0 cq1 cq2 cq3 ct0 ct1 ct2 ct3)
        | (go_at_call 25; (with_reducible refine (HTR.out _ hv).mono ?_); rintro r wq ⟨rfl, gq⟩; have hv := after hv gq; have ha := ha.below gq ha.lt; have hb := hb.below gq hb.lt; have hp := hp.below gq hp.lt; have hr := hr.below gq hr.lt; have hs := hs.below gq hs.lt; have hq := hq.below gq hq.lt; have ht := ht.below gq ht.lt; clear gq; have ca0 := ha.cell 0; have ca1 := ha.cell 1; have ca2 := ha.cell 2; have cb0 := hb.cell 0; have cb1 := hb.cell 1; have cb2 := hb.cell 2; have cp0 := hp.cell 0; have cp1 := hp.cell 1; have cp2 := hp.cell 2; have cp3 := hp.cell 3; have cr0 := hr.cell 0; have cr1 := hr.cell 1; have cr2 := hr.cell 2; have cs0 := hs.cell 0; have cs1 := hs.cell 1; have cs2 := hs.cell 2; have cq0 := hq.cell 0; have cq1 := hq.cell 1; have cq2 := hq.cell 2; have cq3 := hq.cell 3; have ct0 := ht.cell 0; have ct1 := ht.cell 1; have ct2 := ht.cell 2; have ct3 := ht.cell 3; simp at ca0 ca1 ca2 cb0 cb1 cb2 cp0 cp1 cp2 cp3 cr0 cr1 cr2 cs0 cs1 cs2 cq0 cq1 cq2 cq3 ct0 ct1 ct2 ct3)
        | (go_at_call 21; (with_reducible refine (HPT.out _ hv).mono ?_); rintro r wq ⟨rfl, gq⟩; have hv := after hv gq; have ha := ha.below gq ha.lt; have hb := hb.below gq hb.lt; have hp := hp.below gq hp.lt; have hr := hr.below gq hr.lt; have hs := hs.below gq hs.lt; have hq := hq.below gq hq.lt; have ht := ht.below gq ht.lt; clear gq; have ca0 := ha.cell 0; have ca1 := ha.cell 1; have ca2 := ha.cell 2; have cb0 := hb.cell 0; have cb1 := hb.cell 1; have cb2 := hb.cell 2; have cp0 := hp.cell 0; have cp1 := hp.cell 1; have cp2 := hp.cell 2; have cp3 := hp.cell 3; have cr0 := hr.cell 0; have cr1 := hr.cell 1; have cr2 := hr.cell 2; have cs0 := hs.cell 0; have cs1 := hs.cell 1; have cs2 := hs.cell 2; have cq0 := hq.cell 0; have cq1 := hq.cell 1; have cq2 := hq.cell 2; have cq3 := hq.cell 3; have ct0 := ht.cell 0; have ct1 := ht.cell 1; have ct2 := ht.cell 2; have ct3 := ht.cell 3; simp at ca0 ca1 ca2 cb0 cb1 cb2 cp0 cp1 cp2 cp3 cr0 cr1 cr2 cs0 cs1 cs2 cq0 cq1 cq2 cq3 ct0 ct1 ct2 ct3)
        | (go_at_call 26; (with_reducible refine (HPS.out _ hv).mono ?_); rintro r wq ⟨rfl, gq⟩; have hv := after hv gq; have ha := ha.below gq ha.lt; have hb := hb.below gq hb.lt; have hp := hp.below gq hp.lt; have hr := hr.below gq hr.lt; have hs := hs.below gq hs.lt; have hq := hq.below gq hq.lt; have ht := ht.below gq ht.lt; clear gq; have ca0 := ha.cell 0; have ca1 := ha.cell 1; have ca2 := ha.cell 2; have cb0 := hb.cell 0; have cb1 := hb.cell 1; have cb2 := hb.cell 2; have cp0 := hp.cell 0; have cp1 := hp.cell 1; have cp2 := hp.cell 2; have cp3 := hp.cell 3; have cr0 := hr.cell 0; have cr1 := hr.cell 1; have cr2 := hr.cell 2; have cs0 := hs.cell 0; have cs1 := hs.cell 1; have cs2 := hs.cell 2; have cq0 := hq.cell 0; have cq1 := hq.cell 1; have cq2 := hq.cell 2; have cq3 := hq.cell 3; have ct0 := ht.cell 0; have ct1 := ht.cell 1; have ct2 := ht.cell 2; have ct3 := ht.cell 3; simp at ca0 ca1 ca2 cb0 cb1 cb2 cp0 cp1 cp2 cp3 cr0 cr1 cr2 cs0 cs1 cs2 cq0 cq1 cq2 cq3 ct0 ct1 ct2 ct3))
    all_goals go_wp2_with fail
    clear ca0 ca1 ca2 cb0 cb1 cb2 cp0 cp1 cp2 cp3 cr0 cr1 cr2 cs0 cs1 cs2 cq0 cq1 cq2 cq3 ct0 ct1 ct2 ct3 hr hs hq ht
    have ha := ha.drew
    have hb := hb.drew
    have hp := hp.drew
    have hv := hv.drew
    have ca0 := ha.cell 0
    have ca1 := ha.cell 1
    have ca2 := ha.cell 2
    have cb0 := hb.cell 0
    have cb1 := hb.cell 1
    have cb2 := hb.cell 2
    have cp0 := hp.cell 0
    have cp1 := hp.cell 1
    have cp2 := hp.cell 2
    have cp3 := hp.cell 3
    simp at ca0 ca1 ca2 cb0 cb1 cb2 cp0 cp1 cp2 cp3
    go_region_held3 (fun w' => w'.cell? ⟨w.heap.size, 0, none⟩ = some (.bool av) ∧ w'.cell? ⟨w.heap.size, 1, none⟩ = some (.int .u64 (ah : Int)) ∧ w'.cell? ⟨w.heap.size, 2, none⟩ = some (.int .u64 (al : Int)) ∧ w'.cell? ⟨w.heap.size + 1, 0, none⟩ = some (.bool bv) ∧ w'.cell? ⟨w.heap.size + 1, 1, none⟩ = some (.int .u64 (bh : Int)) ∧ w'.cell? ⟨w.heap.size + 1, 2, none⟩ = some (.int .u64 (bl : Int)) ∧ w'.cell? ⟨w.heap.size + 1 + 1, 0, none⟩ = some (.bool pv) ∧ w'.cell? ⟨w.heap.size + 1 + 1, 1, none⟩ = some (.int .u64 (ph : Int)) ∧ w'.cell? ⟨w.heap.size + 1 + 1, 2, none⟩ = some (.int .u64 (pl : Int)) ∧ w'.cell? ⟨w.heap.size + 1 + 1, 3, none⟩ = some (.int .u8 (pn : Int)))
      (exact ⟨ca0, ca1, ca2, cb0, cb1, cb2, cp0, cp1, cp2, cp3⟩)
      (first
        | (go_at_call 22; (with_reducible refine (HMP.out _).mono ?_); rintro r wq ⟨rfl, gq⟩; have hv := after hv gq; have ha := ha.below gq ha.lt; have hb := hb.below gq hb.lt; have hp := hp.below gq hp.lt; clear gq; have ca0 := ha.cell 0; have ca1 := ha.cell 1; have ca2 := ha.cell 2; have cb0 := hb.cell 0; have cb1 := hb.cell 1; have cb2 := hb.cell 2; have cp0 := hp.cell 0; have cp1 := hp.cell 1; have cp2 := hp.cell 2; have cp3 := hp.cell 3; simp at ca0 ca1 ca2 cb0 cb1 cb2 cp0 cp1 cp2 cp3)
        | (go_at_call 27; (with_reducible refine (HMR.out _).mono ?_); rintro r wq ⟨rfl, gq⟩; have hv := after hv gq; have ha := ha.below gq ha.lt; have hb := hb.below gq hb.lt; have hp := hp.below gq hp.lt; clear gq; have ca0 := ha.cell 0; have ca1 := ha.cell 1; have ca2 := ha.cell 2; have cb0 := hb.cell 0; have cb1 := hb.cell 1; have cb2 := hb.cell 2; have cp0 := hp.cell 0; have cp1 := hp.cell 1; have cp2 := hp.cell 2; have cp3 := hp.cell 3; simp at ca0 ca1 ca2 cb0 cb1 cb2 cp0 cp1 cp2 cp3)
        | (go_at_call 28; (with_reducible refine (HHO.out _).mono ?_); rintro r wq ⟨rfl, gq⟩; have hv := after hv gq; have ha := ha.below gq ha.lt; have hb := hb.below gq hb.lt; have hp := hp.below gq hp.lt; clear gq; have ca0 := ha.cell 0; have ca1 := ha.cell 1; have ca2 := ha.cell 2; have cb0 := hb.cell 0; have cb1 := hb.cell 1; have cb2 := hb.cell 2; have cp0 := hp.cell 0; have cp1 := hp.cell 1; have cp2 := hp.cell 2; have cp3 := hp.cell 3; simp at ca0 ca1 ca2 cb0 cb1 cb2 cp0 cp1 cp2 cp3)
        | (go_at_call 29; (with_reducible refine (HHR.out _).mono ?_); rintro r wq ⟨rfl, gq⟩; have hv := after hv gq; have ha := ha.below gq ha.lt; have hb := hb.below gq hb.lt; have hp := hp.below gq hp.lt; clear gq; have ca0 := ha.cell 0; have ca1 := ha.cell 1; have ca2 := ha.cell 2; have cb0 := hb.cell 0; have cb1 := hb.cell 1; have cb2 := hb.cell 2; have cp0 := hp.cell 0; have cp1 := hp.cell 1; have cp2 := hp.cell 2; have cp3 := hp.cell 3; simp at ca0 ca1 ca2 cb0 cb1 cb2 cp0 cp1 cp2 cp3)
        | (go_at_call 30; (with_reducible refine (HLE.out _).mono ?_); rintro r wq ⟨rfl, gq⟩; have hv := after hv gq; have ha := ha.below gq ha.lt; have hb := hb.below gq hb.lt; have hp := hp.below gq hp.lt; clear gq; have ca0 := ha.cell 0; have ca1 := ha.cell 1; have ca2 := ha.cell 2; have cb0 := hb.cell 0; have cb1 := hb.cell 1; have cb2 := hb.cell 2; have cp0 := hp.cell 0; have cp1 := hp.cell 1; have cp2 := hp.cell 2; have cp3 := hp.cell 3; simp at ca0 ca1 ca2 cb0 cb1 cb2 cp0 cp1 cp2 cp3)
        | (go_at_call 31; (with_reducible refine (HLR.out _).mono ?_); rintro r wq ⟨rfl, gq⟩; have hv := after hv gq; have ha := ha.below gq ha.lt; have hb := hb.below gq hb.lt; have hp := hp.below gq hp.lt; clear gq; have ca0 := ha.cell 0; have ca1 := ha.cell 1; have ca2 := ha.cell 2; have cb0 := hb.cell 0; have cb1 := hb.cell 1; have cb2 := hb.cell 2; have cp0 := hp.cell 0; have cp1 := hp.cell 1; have cp2 := hp.cell 2; have cp3 := hp.cell 3; simp at ca0 ca1 ca2 cb0 cb1 cb2 cp0 cp1 cp2 cp3)
        | (go_at_call 9; (with_reducible refine (HWK.out _ hv).mono ?_); rintro r wq ⟨rfl, gq⟩; have hv := after hv gq; have ha := ha.below gq ha.lt; have hb := hb.below gq hb.lt; have hp := hp.below gq hp.lt; clear gq; have ca0 := ha.cell 0; have ca1 := ha.cell 1; have ca2 := ha.cell 2; have cb0 := hb.cell 0; have cb1 := hb.cell 1; have cb2 := hb.cell 2; have cp0 := hp.cell 0; have cp1 := hp.cell 1; have cp2 := hp.cell 2; have cp3 := hp.cell 3; simp at ca0 ca1 ca2 cb0 cb1 cb2 cp0 cp1 cp2 cp3))
    all_goals go_wp2_with fail
    all_goals
      go_ret
      exact ⟨rfl, hv⟩
  · have q1 : (4096 : Int) < (s.size : Int) := by omega
    clear hrd hrr hpd hpr hbig
    go_enter Tryz.func7, Tryz.ntmps7
    go_wp2_with (go_at_call 9; (with_reducible refine (HWK.out _ Hv.out).mono ?_); rintro r w2 ⟨rfl, d2⟩; have hb2 := after Hv.out d2)
    go_ret
    exact ⟨rfl, hb2⟩
end Go.Proofs.YtomndcjgdfhmbaaGreatDoor
