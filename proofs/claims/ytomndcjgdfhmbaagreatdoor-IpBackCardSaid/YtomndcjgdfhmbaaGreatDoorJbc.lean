/- Joined out of: BkE BkF. -/
import Derived.Test.YtomndcjgdfhmbaaGreatDoorJas
import Derived.Test.YtomndcjgdfhmbaaGreatDoorJbb
import Derived.Test.YtomndcjgdfhmbaaGreatDoorJam
import Derived.Deep.DeepCutAuto
import Derived.BigRegion
import Derived.BigQuiet
import Derived.Deep.QuietTactic
set_option linter.unusedVariables false
set_option linter.unusedSimpArgs false

/- IpBack: the walk. (Printed by lw_back.py.) -/
namespace Go.Proofs.YtomndcjgdfhmbaaGreatDoor
open Go.RowKit

theorem three_boxed (w : World) (o1 o2 o3 : Obj) : Below w.heap.size w (((w.alloc o1).alloc o2).alloc o3) := after (two_boxed w o1 o2) (boxed _ o3)

theorem Res_no {e : Nat} (h : e ≠ 0) (p : Pk) : Res e p = .tuple #[.agg #[.bool false, .int .u64 0, .int .u64 0, .bool false, .int .u64 0, .int .u64 0, .int .u8 0, .int .u8 0, .string ⟨#[]⟩], .int .i64 (e : Int)] := by
  unfold Res
  rw [if_neg h]
  rfl
theorem Res_yes (p : Pk) : Res 0 p = .tuple #[.agg p.cells, .int .i64 0] := rfl
theorem first_byte {s : ByteArray} (h : s.size ≠ 0) : valB (s.extract 0 1) = bt s 0 := by
  rw [valB_ext]
  unfold bt
  have : 1 ≤ (nats s).length := by rw [nats_length]; omega
  cases hL : nats s with
  | nil => rw [hL] at this; exact absurd this (by decide)
  | cons c R => exact valL_one c
theorem bt_at (s : ByteArray) (i : Nat) (h : i < s.size) : (s[i]'h).toNat = bt s i := by
  have hl : i < (nats s).length := by rw [nats_length]; exact h
  unfold bt
  rw [List.getD_eq_getElem?_getD, List.getElem?_eq_getElem hl]
  simp [nats]
  rfl
theorem bt_lt (s : ByteArray) (i : Nat) : bt s i < 256 := by
  unfold bt
  rw [List.getD_eq_getElem?_getD]
  cases h : (nats s)[i]? with
  | none => decide
  | some c => exact nats_lt s c (List.mem_of_getElem? h)
theorem list_bytes {b : ByteArray} {l : List UInt8} (h : (b.toList == l) = true) : b = ⟨l.toArray⟩ := by
  have h := eq_of_beq h
  rw [ByteArray.toList_eq] at h
  apply ByteArray.ext
  rw [← h]
theorem list_bytes_ne {b : ByteArray} {l : List UInt8} (h : (b.toList == l) = false) : b ≠ ⟨l.toArray⟩ := by
  rintro rfl
  rw [ByteArray.toList_eq] at h
  simp at h
theorem readL_nil : readL [] = none := by decide
theorem preadL_nil : preadL [] = none := by rfl
theorem ptextB_size {p : Pf} (ok : p.Ok) : (ptextB p).size ≤ 100000 := by
  unfold ptextB ptext
  split
  · next h =>
    have h1 := textL_len p.a
    have h2 := decL_len p.bits (by have := ok.bits; omega)
    simp [ByteArray.size]
    omega
  · show 0 ≤ _; omega
theorem encB_size {p : Pk} (ok : p.Ok) : (encB p).size ≤ 65536 := by
  have hd := ok.data
  unfold encB
  split
  · show 0 ≤ _; omega
  · next hm =>
    have hm0 : p.mayE = 0 := by omega
    have hb := mayE_v6 hm0
    split
    · next h6 => rw [size_enc6 h6 (hb.trans h6)]; omega
    · next h6 =>
      have h6 : p.a.v6 = false := by cases h : p.a.v6 <;> simp_all
      rw [size_enc4 ok.ttl ok.proto h6 (hb.trans h6)]; omega

set_option maxHeartbeats 16000000 in
set_option maxRecDepth 100000 in
theorem back_main {w : World} (env : Env w) (pv pv' : Bool) (ph pl ph' pl' pr tt : Nat) (D s : ByteArray) (ok : (Pk.mk ⟨pv, ph, pl⟩ ⟨pv', ph', pl'⟩ pr tt D).Ok) (hs : s.size ≤ 8192)
    (av : Bool) (ah al : Nat) (oka : (Ad.mk av ah al).Ok) (xv : Bool) (xh xl xn : Nat) (okx : (Pf.mk ⟨xv, xh, xl⟩ xn).Ok) :
    Calls Tryz.prog 5 #[.agg #[.bool pv, .int .u64 (ph : Int), .int .u64 (pl : Int), .bool pv', .int .u64 (ph' : Int), .int .u64 (pl' : Int), .int .u8 (pr : Int), .int .u8 (tt : Int), .string D], .string s, .agg #[.bool av, .int .u64 (ah : Int), .int .u64 (al : Int)], .agg #[.bool xv, .int .u64 (xh : Int), .int .u64 (xl : Int), .int .u8 (xn : Int)]] w (Got (.bool true) w) := by
  have HWK := Lib.hid fun v (hv : Below w.heap.size w v) => works_any (env.below hv)
  have hq1 : ¬ (8192 : Int) < (D.size : Int) := by have := ok.data; simp only at this; omega
  have hq2 : ¬ (8192 : Int) < (s.size : Int) := by omega
  have henc := fun u => encode_any (Pk.mk ⟨pv, ph, pl⟩ ⟨pv', ph', pl'⟩ pr tt D) ok u
  have hdec := fun u => decode_any s (by omega) u
  have ha : Blk (((w.alloc (.cells #[.bool pv, .int .u64 (ph : Int), .int .u64 (pl : Int), .bool pv', .int .u64 (ph' : Int), .int .u64 (pl' : Int), .int .u8 (pr : Int), .int .u8 (tt : Int), .string D] 26)).alloc (.cells #[.bool av, .int .u64 (ah : Int), .int .u64 (al : Int)] 24)).alloc (.cells #[.bool xv, .int .u64 (xh : Int), .int .u64 (xl : Int), .int .u8 (xn : Int)] 39)) (w.heap.size + 1) 24 #[.bool av, .int .u64 (ah : Int), .int .u64 (al : Int)] := by
    have h := (Blk.new (w.alloc (.cells #[.bool pv, .int .u64 (ph : Int), .int .u64 (pl : Int), .bool pv', .int .u64 (ph' : Int), .int .u64 (pl' : Int), .int .u8 (pr : Int), .int .u8 (tt : Int), .string D] 26)) 24 #[.bool av, .int .u64 (ah : Int), .int .u64 (al : Int)]).alloc (.cells #[.bool xv, .int .u64 (xh : Int), .int .u64 (xl : Int), .int .u8 (xn : Int)] 39)
    simpa using h
  have hx : Blk (((w.alloc (.cells #[.bool pv, .int .u64 (ph : Int), .int .u64 (pl : Int), .bool pv', .int .u64 (ph' : Int), .int .u64 (pl' : Int), .int .u8 (pr : Int), .int .u8 (tt : Int), .string D] 26)).alloc (.cells #[.bool av, .int .u64 (ah : Int), .int .u64 (al : Int)] 24)).alloc (.cells #[.bool xv, .int .u64 (xh : Int), .int .u64 (xl : Int), .int .u8 (xn : Int)] 39)) (w.heap.size + 1 + 1) 39 #[.bool xv, .int .u64 (xh : Int), .int .u64 (xl : Int), .int .u8 (xn : Int)] := by
    have h := Blk.new ((w.alloc (.cells #[.bool pv, .int .u64 (ph : Int), .int .u64 (pl : Int), .bool pv', .int .u64 (ph' : Int), .int .u64 (pl' : Int), .int .u8 (pr : Int), .int .u8 (tt : Int), .string D] 26)).alloc (.cells #[.bool av, .int .u64 (ah : Int), .int .u64 (al : Int)] 24)) 39 #[.bool xv, .int .u64 (xh : Int), .int .u64 (xl : Int), .int .u8 (xn : Int)]
    simpa using h
  have hp := ((Blk.new w 26 #[.bool pv, .int .u64 (ph : Int), .int .u64 (pl : Int), .bool pv', .int .u64 (ph' : Int), .int .u64 (pl' : Int), .int .u8 (pr : Int), .int .u8 (tt : Int), .string D]).alloc (.cells #[.bool av, .int .u64 (ah : Int), .int .u64 (al : Int)] 24)).alloc (.cells #[.bool xv, .int .u64 (xh : Int), .int .u64 (xl : Int), .int .u8 (xn : Int)] 39)
  have hv := three_boxed w (.cells #[.bool pv, .int .u64 (ph : Int), .int .u64 (pl : Int), .bool pv', .int .u64 (ph' : Int), .int .u64 (pl' : Int), .int .u8 (pr : Int), .int .u8 (tt : Int), .string D] 26) (.cells #[.bool av, .int .u64 (ah : Int), .int .u64 (al : Int)] 24) (.cells #[.bool xv, .int .u64 (xh : Int), .int .u64 (xl : Int), .int .u8 (xn : Int)] 39)
  have hdt := fun u => decode_any (encB (Pk.mk ⟨pv, ph, pl⟩ ⟨pv', ph', pl'⟩ pr tt D)) (encB_size ok) u
  have hback := fun hm => @back_pk (Pk.mk ⟨pv, ph, pl⟩ ⟨pv', ph', pl'⟩ pr tt D) ok hm
  obtain ⟨cv, ch, cl, ea, hVA, hA⟩ : ∃ (cv : Bool) (ch cl ea : Nat), readV (readL (textB ⟨av, ah, al⟩).data.toList) = .tuple #[.agg #[.bool cv, .int .u64 (ch : Int), .int .u64 (cl : Int)], .int .i64 (ea : Int)] ∧ ((ea = 0 ∧ cv = av ∧ ch = ah ∧ cl = al) ∨ (ea = 8 ∧ (textB ⟨av, ah, al⟩).toList.isEmpty = true)) := by
    cases h : (Ad.mk av ah al).may with
    | true => exact ⟨av, ah, al, 0, by unfold textB; rw [show (ByteArray.mk (textL ⟨av, ah, al⟩).toArray).data.toList = textL ⟨av, ah, al⟩ from rfl, read_text oka h]; rfl, Or.inl ⟨rfl, rfl, rfl, rfl⟩⟩
    | false => exact ⟨false, 0, 0, 8, by unfold textB; rw [textL_nil h, show (ByteArray.mk ([] : List UInt8).toArray).data.toList = [] from rfl, readL_nil]; rfl, Or.inr ⟨rfl, by rw [ByteArray.toList_eq]; unfold textB; rw [textL_nil h]; rfl⟩⟩
  obtain ⟨kv, kh, kl, kn, ex, hVX, hX⟩ : ∃ (kv : Bool) (kh kl kn ex : Nat), preadV (preadL (ptextB ⟨⟨xv, xh, xl⟩, xn⟩).data.toList) = .tuple #[.agg #[.bool kv, .int .u64 (kh : Int), .int .u64 (kl : Int), .int .u8 (kn : Int)], .int .i64 (ex : Int)] ∧ ((ex = 0 ∧ kv = xv ∧ kh = xh ∧ kl = xl ∧ kn = xn) ∨ (ex = 8 ∧ pmay ⟨⟨xv, xh, xl⟩, xn⟩ = false)) := by
    cases h : pmay ⟨⟨xv, xh, xl⟩, xn⟩ with
    | true => exact ⟨xv, xh, xl, xn, 0, by unfold ptextB; rw [show (ByteArray.mk (ptext ⟨⟨xv, xh, xl⟩, xn⟩).toArray).data.toList = ptext ⟨⟨xv, xh, xl⟩, xn⟩ from rfl, preadL_text okx h]; rfl, Or.inl ⟨rfl, rfl, rfl, rfl, rfl⟩⟩
    | false => exact ⟨false, 0, 0, 0, 8, by unfold ptextB ptext; rw [h, if_neg (by decide), show (ByteArray.mk ([] : List UInt8).toArray).data.toList = [] from rfl, preadL_nil]; rfl, Or.inr ⟨rfl, rfl⟩⟩
  have hta := fun u (hv : Below w.heap.size w u) => text_any (env.below hv) ⟨av, ah, al⟩ oka
  have hra := fun u (hv : Below w.heap.size w u) => read_any (env.below hv) (textB ⟨av, ah, al⟩) (Nat.le_trans (textB_size _) (by decide))
  have htx := fun u (hv : Below w.heap.size w u) => prefixText_any (env.below hv) ⟨⟨xv, xh, xl⟩, xn⟩ okx
  have hrx := fun u (hv : Below w.heap.size w u) => readPrefix_any (env.below hv) (ptextB ⟨⟨xv, xh, xl⟩, xn⟩) (ptextB_size okx)
  have hmx := fun u => mayPrefix_any ⟨⟨xv, xh, xl⟩, xn⟩ okx u
  rw [hVA] at hra
  rw [hVX] at hrx
  generalize textB ⟨av, ah, al⟩ = TXA at hta hra hA
  generalize ptextB ⟨⟨xv, xh, xl⟩, xn⟩ = TXX at htx hrx
  generalize pmay ⟨⟨xv, xh, xl⟩, xn⟩ = PM at hmx hX
  unfold Ad.cells at hta
  unfold Pf.cells at htx hmx
  simp only at hta htx hmx
  have HTA := Lib.hid hta
  have HRA := Lib.hid hra
  have HTX := Lib.hid htx
  have HRX := Lib.hid hrx
  have HMX := Lib.hid hmx
  have HA := Lib.hid hA
  have HX := Lib.hid hX
  clear hta hra htx hrx hmx hVA hVX env hA hX oka okx
  unfold Res at hdec
  obtain ⟨ER, hER⟩ : ∃ e, e = decE s := ⟨_, rfl⟩
  obtain ⟨G, hG⟩ : ∃ G, G = (if ER = 0 then decP s else Pk.zero) := ⟨_, rfl⟩
  rw [← hER, ← hG] at hdec
  have hG' : ER = 0 → G = decP s := fun h => by rw [hG, if_pos h]
  clear hG
  obtain ⟨⟨gv, gh, gl⟩, ⟨gv', gh', gl'⟩, gpr, gtt, GD⟩ := G
  unfold Pk.cells at hdec
  simp only at hdec
  have HDEC := Lib.hid hdec
  have HG := Lib.hid hG'
  have HER := Lib.hid hER
  clear hdec hG' hER
  generalize encB (Pk.mk ⟨pv, ph, pl⟩ ⟨pv', ph', pl'⟩ pr tt D) = T at henc hdt hback
  generalize (Pk.mk ⟨pv, ph, pl⟩ ⟨pv', ph', pl'⟩ pr tt D).mayE = ME at henc hback
  simp only at hback
  unfold Pk.cells at henc
  simp only at henc
  have HENC := Lib.hid henc
  clear henc
  go_enter Tryz.func5, Tryz.ntmps5
  go_upto_region 1 with fail
  generalize ((w.alloc (.cells #[.bool pv, .int .u64 (ph : Int), .int .u64 (pl : Int), .bool pv', .int .u64 (ph' : Int), .int .u64 (pl' : Int), .int .u8 (pr : Int), .int .u8 (tt : Int), .string D] 26)).alloc (.cells #[.bool av, .int .u64 (ah : Int), .int .u64 (al : Int)] 24)).alloc (.cells #[.bool xv, .int .u64 (xh : Int), .int .u64 (xl : Int), .int .u8 (xn : Int)] 39) = w0 at ha hx hp hv ⊢
  have p0 := hp.cell 0
  have p1 := hp.cell 1
  have p2 := hp.cell 2
  have p3 := hp.cell 3
  have p4 := hp.cell 4
  have p5 := hp.cell 5
  have p6 := hp.cell 6
  have p7 := hp.cell 7
  have p8 := hp.cell 8
  simp at p0 p1 p2 p3 p4 p5 p6 p7 p8
  go_upto_region 3 with fail
  go_upto_region 4 with (go_at_call 10; (with_reducible refine (HENC.out _).mono ?_); rintro r w1 ⟨rfl, d1⟩; have hv1 := after hv d1; have ha1 := ha.below d1 ha.lt; have hx1 := hx.below d1 hx.lt; have hp1 := hp.below d1 hp.lt; clear hv ha hx hp p0 p1 p2 p3 p4 p5 p6 p7 p8 d1)
  have p0 := hp1.cell 0
  have p1 := hp1.cell 1
  have p2 := hp1.cell 2
  have p3 := hp1.cell 3
  have p4 := hp1.cell 4
  have p5 := hp1.cell 5
  have p6 := hp1.cell 6
  have p7 := hp1.cell 7
  have p8 := hp1.cell 8
  simp at p0 p1 p2 p3 p4 p5 p6 p7 p8
  go_upto_if 40 with fail
  go_cut [] (fun wx => Below w1.heap.size w1 wx)
  case first =>
    by_cases hz : ME = 0
    · obtain ⟨h6, hE⟩ | ⟨hE, hP⟩ := hback hz
      · subst hz
        rw [hE, Res_no (by decide)] at hdt
        have HDT := Lib.hid hdt
        subst h6
        clear hdt hback hE
        go_upto_region 6 with (go_at_call 16; (with_reducible refine (HDT.out _).mono ?_); rintro r w2 ⟨rfl, d2⟩; have hp2 := hp1.below d2 hp1.lt; clear hp1 p0 p1 p2 p3 p4 p5 p6 p7 p8)
        have hp3 := hp2.alloc (.cells #[.bool false, .int .u64 0, .int .u64 0, .bool false, .int .u64 0, .int .u64 0, .int .u8 0, .int .u8 0, .string ⟨#[]⟩] 26)
        have hb3 := after d2 (boxed w2 (.cells #[.bool false, .int .u64 0, .int .u64 0, .bool false, .int .u64 0, .int .u64 0, .int .u8 0, .int .u8 0, .string ⟨#[]⟩] 26))
        clear d2 hp2
        generalize w2.alloc (.cells #[.bool false, .int .u64 0, .int .u64 0, .bool false, .int .u64 0, .int .u64 0, .int .u8 0, .int .u8 0, .string ⟨#[]⟩] 26) = w3 at hp3 hb3 ⊢
        have p0 := hp3.cell 0
        have p1 := hp3.cell 1
        have p2 := hp3.cell 2
        have p3 := hp3.cell 3
        have p4 := hp3.cell 4
        have p5 := hp3.cell 5
        have p6 := hp3.cell 6
        have p7 := hp3.cell 7
        have p8 := hp3.cell 8
        simp at p0 p1 p2 p3 p4 p5 p6 p7 p8
        go_wp2_with fail
        go_meet
        exact hb3
      · subst hz
        rw [hE, hP, Res_yes] at hdt
        unfold Pk.cells at hdt
        simp only at hdt
        have HDT := Lib.hid hdt
        clear hdt hback hE hP
        go_upto_region 6 with (go_at_call 16; (with_reducible refine (HDT.out _).mono ?_); rintro r w2 ⟨rfl, d2⟩; have hp2 := hp1.below d2 hp1.lt; clear hp1 p0 p1 p2 p3 p4 p5 p6 p7 p8)
        have hp3 := hp2.alloc (.cells #[.bool pv, .int .u64 (ph : Int), .int .u64 (pl : Int), .bool pv', .int .u64 (ph' : Int), .int .u64 (pl' : Int), .int .u8 (pr : Int), .int .u8 (tt : Int), .string D] 26)
        have hq3 := Blk.new w2 26 #[.bool pv, .int .u64 (ph : Int), .int .u64 (pl : Int), .bool pv', .int .u64 (ph' : Int), .int .u64 (pl' : Int), .int .u8 (pr : Int), .int .u8 (tt : Int), .string D]
        have hb3 := after d2 (boxed w2 (.cells #[.bool pv, .int .u64 (ph : Int), .int .u64 (pl : Int), .bool pv', .int .u64 (ph' : Int), .int .u64 (pl' : Int), .int .u8 (pr : Int), .int .u8 (tt : Int), .string D] 26))
        clear d2 hp2
        generalize w2.alloc (.cells #[.bool pv, .int .u64 (ph : Int), .int .u64 (pl : Int), .bool pv', .int .u64 (ph' : Int), .int .u64 (pl' : Int), .int .u8 (pr : Int), .int .u8 (tt : Int), .string D] 26) = w3 at hp3 hb3 hq3 ⊢
        have p0 := hp3.cell 0
        have p1 := hp3.cell 1
        have p2 := hp3.cell 2
        have p3 := hp3.cell 3
        have p4 := hp3.cell 4
        have p5 := hp3.cell 5
        have p6 := hp3.cell 6
        have p7 := hp3.cell 7
        have p8 := hp3.cell 8
        simp at p0 p1 p2 p3 p4 p5 p6 p7 p8
        have q0 := hq3.cell 0
        have q1 := hq3.cell 1
        have q2 := hq3.cell 2
        have q3 := hq3.cell 3
        have q4 := hq3.cell 4
        have q5 := hq3.cell 5
        have q6 := hq3.cell 6
        have q7 := hq3.cell 7
        have q8 := hq3.cell 8
        simp at q0 q1 q2 q3 q4 q5 q6 q7 q8
        cases pv with
        | false =>
          go_wp2_with fail
          go_meet
          exact hb3
        | true =>
          go_wp2_with fail
          go_meet
          exact hb3
    · have hz' : ((ME : Int) == 0) = false := by simp; omega
      go_wp2_with fail
      go_meet
      exact Below.refl _ _
  case rest =>
  have ha4 := ha1.below hcut ha1.lt
  have hx4 := hx1.below hcut hx1.lt
  have hv4 := after hv1 hcut
  clear hv1 ha1 hx1 hp1 hcut p0 p1 p2 p3 p4 p5 p6 p7 p8 hdt hback
  go_upto_region 9 with fail
  go_upto_region 10 with (go_at_call 16; (with_reducible refine (HDEC.out _).mono ?_); rintro r w5 ⟨rfl, d5⟩; have hv5 := after hv4 d5; have ha5 := ha4.below d5 ha4.lt; have hx5 := hx4.below d5 hx4.lt; clear hv4 ha4 hx4 d5)
  have hg6 := Blk.new w5 26 #[.bool gv, .int .u64 (gh : Int), .int .u64 (gl : Int), .bool gv', .int .u64 (gh' : Int), .int .u64 (gl' : Int), .int .u8 (gpr : Int), .int .u8 (gtt : Int), .string GD]
  have hv6 := after hv5 (boxed w5 (.cells #[.bool gv, .int .u64 (gh : Int), .int .u64 (gl : Int), .bool gv', .int .u64 (gh' : Int), .int .u64 (gl' : Int), .int .u8 (gpr : Int), .int .u8 (gtt : Int), .string GD] 26))
  have ha6 := ha5.alloc (.cells #[.bool gv, .int .u64 (gh : Int), .int .u64 (gl : Int), .bool gv', .int .u64 (gh' : Int), .int .u64 (gl' : Int), .int .u8 (gpr : Int), .int .u8 (gtt : Int), .string GD] 26)
  have hx6 := hx5.alloc (.cells #[.bool gv, .int .u64 (gh : Int), .int .u64 (gl : Int), .bool gv', .int .u64 (gh' : Int), .int .u64 (gl' : Int), .int .u8 (gpr : Int), .int .u8 (gtt : Int), .string GD] 26)
  clear hv5 ha5 hx5
  generalize w5.alloc (.cells #[.bool gv, .int .u64 (gh : Int), .int .u64 (gl : Int), .bool gv', .int .u64 (gh' : Int), .int .u64 (gl' : Int), .int .u8 (gpr : Int), .int .u8 (gtt : Int), .string GD] 26) = w6 at hg6 hv6 ha6 hx6 ⊢
  generalize w5.heap.size = gg at hg6 ⊢
  have g0 := hg6.cell 0
  have g1 := hg6.cell 1
  have g2 := hg6.cell 2
  have g3 := hg6.cell 3
  have g4 := hg6.cell 4
  have g5 := hg6.cell 5
  have g6 := hg6.cell 6
  have g7 := hg6.cell 7
  have g8 := hg6.cell 8
  simp at g0 g1 g2 g3 g4 g5 g6 g7 g8
  go_upto_if 70 with fail
  go_cut [] (fun wx => Below w6.heap.size w6 wx)
  case first =>
    by_cases hz : ER = 0
    · have hd := HER.out.symm.trans hz
      have e := HG.out hz
      have ok2 := decP_ok hd
      have hm2 := decP_may hd
      obtain ⟨z1, z2, z3⟩ := again_size hd
      have n4 := @again4 s hd
      have n6 := @again6 s hd
      have kinds : s.size ≠ 0 ∧ (bt s 0 = 69 ∧ 20 ≤ s.size ∨ bt s 0 ≠ 69 ∧ 40 ≤ s.size) := by
        obtain ⟨_, k1, k2⟩ := dec_kinds hd
        have hb := first_byte k1
        refine ⟨k1, ?_⟩
        rcases k2 with ⟨k3, k4, _, _⟩ | ⟨k3, k4, _, _⟩
        · exact Or.inl ⟨by omega, k4⟩
        · exact Or.inr ⟨by omega, k4⟩
      rw [← e] at ok2 hm2 z1 z2 z3 n4 n6
      have henc2 := fun u => encode_any (Pk.mk ⟨gv, gh, gl⟩ ⟨gv', gh', gl'⟩ gpr gtt GD) ok2 u
      rw [hm2] at henc2
      generalize encB (Pk.mk ⟨gv, gh, gl⟩ ⟨gv', gh', gl'⟩ gpr gtt GD) = U at henc2 z1 z3 n4 n6
      unfold Pk.cells at henc2
      simp only at henc2 z2 z3
      have HENC2 := Lib.hid henc2
      have N4 := Lib.hid n4
      have N6 := Lib.hid n6
      clear henc2 n4 n6 ok2 hm2 e hd
      subst hz
      go_upto_region 12 with (go_at_call 10; (with_reducible refine (HENC2.out _).mono ?_); rintro r w7 ⟨rfl, d7⟩; have hg7 := hg6.below d7 hg6.lt; clear hg6 g0 g1 g2 g3 g4 g5 g6 g7 g8)
      have i1 : IntKind.i64.wrap ((s.size : Int) - (GD.size : Int)) = (s.size : Int) - (GD.size : Int) := by rw [IntKind.wrap_i64]; omega
      have i2 : ((s.size : Int) - (GD.size : Int)).toNat = s.size - GD.size := by omega
      have i3 : (0 : Int) ≤ (s.size : Int) - (GD.size : Int) := by omega
      have i4 : (s.size : Int) - (GD.size : Int) ≤ (s.size : Int) := by omega
      have g0 := hg7.cell 0
      have g1 := hg7.cell 1
      have g2 := hg7.cell 2
      have g3 := hg7.cell 3
      have g4 := hg7.cell 4
      have g5 := hg7.cell 5
      have g6 := hg7.cell 6
      have g7 := hg7.cell 7
      have g8 := hg7.cell 8
      simp at g0 g1 g2 g3 g4 g5 g6 g7 g8
      go_quiet (fail)
      go_upto_region 14 with fail
      obtain ⟨k0, k⟩ := kinds
      have r0 : 0 < s.size := by omega
      have r1 : 1 < s.size := by omega
      have r2 : 2 < s.size := by omega
      have r3 : 3 < s.size := by omega
      have x0 := bt_at s 0 r0
      have x1 := bt_at s 1 r1
      have x2 := bt_at s 2 r2
      have x3 := bt_at s 3 r3
      have l0 := bt_lt s 0
      have l1 := bt_lt s 1
      have l2 := bt_lt s 2
      have l3 := bt_lt s 3
      generalize bt s 0 = b0 at x0 k N4 N6 l0
      generalize bt s 1 = b1 at x1 N4 N6 l1
      generalize bt s 2 = b2 at x2 N4 N6 l2
      generalize bt s 3 = b3 at x3 N4 N6 l3
      rcases k with ⟨k1, k2⟩ | ⟨k1, k2⟩
      · subst k1
        have q1 : (8 : Int) ≤ (s.size : Int) := by omega
        have q2 : (12 : Int) ≤ (s.size : Int) := by omega
        by_cases y1 : b1 = 0
        · subst y1
          cases y2 : ((s.extract 4 8).toList == [0, 0, 0, 0]) with
          | true =>
            cases y3 : ((s.extract 10 12).toList == [255, 255]) with
            | true =>
              clear N4 N6
              go_quiet (fail)
              go_wp2_with fail
              go_meet
              exact ⟨d7.os, d7.tape, d7.output, d7.size, d7.block⟩
            | false =>
              have e := N4.out rfl rfl (list_bytes y2) (list_bytes_ne y3)
              clear N4 N6
              subst e
              go_quiet (fail)
              go_wp2_with fail
              go_meet
              exact ⟨d7.os, d7.tape, d7.output, d7.size, d7.block⟩
          | false =>
            clear N4 N6
            go_quiet (fail)
            go_wp2_with fail
            go_meet
            exact ⟨d7.os, d7.tape, d7.output, d7.size, d7.block⟩
        · have y1' : ((b1 : Int) == 0) = false := by simp; omega
          clear N4 N6 y1
          go_quiet (fail)
          go_wp2_with fail
          go_meet
          exact ⟨d7.os, d7.tape, d7.output, d7.size, d7.block⟩
      · have u1 : ((b0 : Int) == 69) = false := by simp; omega
        by_cases y0 : b0 = 96
        · subst y0
          have o1 := u8_or_nat b1 b2 l1 l2
          have o2 := u8_or_nat (b1 ||| b2) b3 (Nat.or_lt_two_pow (n := 8) l1 l2) l3
          by_cases yo : (b1 ||| b2) ||| b3 = 0
          · have w12 := Nat.or_eq_zero_iff.1 yo
            have w1 := Nat.or_eq_zero_iff.1 w12.1
            obtain ⟨rfl, rfl⟩ := w1
            obtain rfl := w12.2
            have e := N6.out rfl rfl rfl rfl
            clear N4 N6 o1 o2 yo w12
            have o0 : bits .or .u8 0 0 = 0 := by decide
            subst e
            go_quiet (fail)
            go_wp2_with fail
            go_meet
            exact ⟨d7.os, d7.tape, d7.output, d7.size, d7.block⟩
          · generalize (b1 ||| b2) ||| b3 = bo at o2 yo
            have yo' : ((bo : Int) == 0) = false := by simp; omega
            clear N4 N6 yo
            go_quiet (fail)
            go_wp2_with fail
            go_meet
            exact ⟨d7.os, d7.tape, d7.output, d7.size, d7.block⟩
        · have u0 : ((b0 : Int) == 96) = false := by simp; omega
          clear N4 N6 k1 y0
          go_quiet (fail)
          go_wp2_with fail
          go_meet
          exact ⟨d7.os, d7.tape, d7.output, d7.size, d7.block⟩
    · have hz' : ((ER : Int) == 0) = false := by simp; omega
      go_wp2_with fail
      go_meet
      exact Below.refl _ _
  case rest =>
  have hv := after hv6 hcut
  have ha := ha6.below hcut ha6.lt
  have hx := hx6.below hcut hx6.lt
  clear hv6 ha6 hx6 hg6 g0 g1 g2 g3 g4 g5 g6 g7 g8 hcut HG HER hq1 hq2 hs ok
  have a0 := ha.cell 0; have a1 := ha.cell 1; have a2 := ha.cell 2; have x0 := hx.cell 0; have x1 := hx.cell 1; have x2 := hx.cell 2; have x3 := hx.cell 3; simp at a0 a1 a2 x0 x1 x2 x3
  go_upto_region 19 with (first
    | (go_at_call 19; (with_reducible refine (HTA.out _ hv).mono ?_); rintro r wq ⟨rfl, gq⟩; have hv := after hv gq; have ha := ha.below gq ha.lt; have hx := hx.below gq hx.lt; clear gq; have a0 := ha.cell 0; have a1 := ha.cell 1; have a2 := ha.cell 2; have x0 := hx.cell 0; have x1 := hx.cell 1; have x2 := hx.cell 2; have x3 := hx.cell 3; simp at a0 a1 a2 x0 x1 x2 x3)
    | (go_at_call 18; (with_reducible refine (HRA.out _ hv).mono ?_); rintro r w8 ⟨rfl, gq⟩; have hv8 := after hv gq; have ha8 := ha.below gq ha.lt; have hx8 := hx.below gq hx.lt; clear gq hv ha hx a0 a1 a2 x0 x1 x2 x3))
  have hv := after hv8 (boxed w8 (.cells #[.bool cv, .int .u64 (ch : Int), .int .u64 (cl : Int)] 24))
  have ha := ha8.alloc (.cells #[.bool cv, .int .u64 (ch : Int), .int .u64 (cl : Int)] 24)
  have hx := hx8.alloc (.cells #[.bool cv, .int .u64 (ch : Int), .int .u64 (cl : Int)] 24)
  have hc := Blk.new w8 24 #[.bool cv, .int .u64 (ch : Int), .int .u64 (cl : Int)]
  clear hv8 ha8 hx8
  generalize w8.alloc (.cells #[.bool cv, .int .u64 (ch : Int), .int .u64 (cl : Int)] 24) = w9 at hv ha hx hc ⊢
  generalize w8.heap.size = gc at hc ⊢
  have a0 := ha.cell 0; have a1 := ha.cell 1; have a2 := ha.cell 2; have x0 := hx.cell 0; have x1 := hx.cell 1; have x2 := hx.cell 2; have x3 := hx.cell 3; have c0 := hc.cell 0; have c1 := hc.cell 1; have c2 := hc.cell 2; simp at a0 a1 a2 x0 x1 x2 x3 c0 c1 c2
  go_upto_region 20 with (first
    | (go_at_call 21; (with_reducible refine (HTX.out _ hv).mono ?_); rintro r wq ⟨rfl, gq⟩; have hv := after hv gq; have ha := ha.below gq ha.lt; have hx := hx.below gq hx.lt; have hc := hc.below gq hc.lt; clear gq; have a0 := ha.cell 0; have a1 := ha.cell 1; have a2 := ha.cell 2; have x0 := hx.cell 0; have x1 := hx.cell 1; have x2 := hx.cell 2; have x3 := hx.cell 3; have c0 := hc.cell 0; have c1 := hc.cell 1; have c2 := hc.cell 2; simp at a0 a1 a2 x0 x1 x2 x3 c0 c1 c2)
    | (go_at_call 20; (with_reducible refine (HRX.out _ hv).mono ?_); rintro r w10 ⟨rfl, gq⟩; have hv8 := after hv gq; have ha8 := ha.below gq ha.lt; have hx8 := hx.below gq hx.lt; have hc8 := hc.below gq hc.lt; clear gq hv ha hx hc a0 a1 a2 x0 x1 x2 x3 c0 c1 c2))
  have hv := after hv8 (boxed w10 (.cells #[.bool kv, .int .u64 (kh : Int), .int .u64 (kl : Int), .int .u8 (kn : Int)] 39))
  have ha := ha8.alloc (.cells #[.bool kv, .int .u64 (kh : Int), .int .u64 (kl : Int), .int .u8 (kn : Int)] 39)
  have hx := hx8.alloc (.cells #[.bool kv, .int .u64 (kh : Int), .int .u64 (kl : Int), .int .u8 (kn : Int)] 39)
  have hc := hc8.alloc (.cells #[.bool kv, .int .u64 (kh : Int), .int .u64 (kl : Int), .int .u8 (kn : Int)] 39)
  have hk := Blk.new w10 39 #[.bool kv, .int .u64 (kh : Int), .int .u64 (kl : Int), .int .u8 (kn : Int)]
  clear hv8 ha8 hx8 hc8
  generalize w10.alloc (.cells #[.bool kv, .int .u64 (kh : Int), .int .u64 (kl : Int), .int .u8 (kn : Int)] 39) = w11 at hv ha hx hc hk ⊢
  generalize w10.heap.size = gk at hk ⊢
  have hA := HA.out
  have hX := HX.out
  clear HA HX
  rcases hA with ⟨rfl, rfl, rfl, rfl⟩ | ⟨rfl, hemp⟩ <;> rcases hX with ⟨rfl, rfl, rfl, rfl, rfl⟩ | ⟨rfl, rfl⟩
  all_goals
    have a0 := ha.cell 0; have a1 := ha.cell 1; have a2 := ha.cell 2; have x0 := hx.cell 0; have x1 := hx.cell 1; have x2 := hx.cell 2; have x3 := hx.cell 3; have c0 := hc.cell 0; have c1 := hc.cell 1; have c2 := hc.cell 2; have k0 := hk.cell 0; have k1 := hk.cell 1; have k2 := hk.cell 2; have k3 := hk.cell 3; simp at a0 a1 a2 x0 x1 x2 x3 c0 c1 c2 k0 k1 k2 k3
    go_wp2_with (first
      | (go_at_call 19; (with_reducible refine (HTA.out _ hv).mono ?_); rintro r wq ⟨rfl, gq⟩; have hv := after hv gq; have ha := ha.below gq ha.lt; have hx := hx.below gq hx.lt; have hc := hc.below gq hc.lt; have hk := hk.below gq hk.lt; clear gq; have a0 := ha.cell 0; have a1 := ha.cell 1; have a2 := ha.cell 2; have x0 := hx.cell 0; have x1 := hx.cell 1; have x2 := hx.cell 2; have x3 := hx.cell 3; have c0 := hc.cell 0; have c1 := hc.cell 1; have c2 := hc.cell 2; have k0 := hk.cell 0; have k1 := hk.cell 1; have k2 := hk.cell 2; have k3 := hk.cell 3; simp at a0 a1 a2 x0 x1 x2 x3 c0 c1 c2 k0 k1 k2 k3)
      | (go_at_call 22; (with_reducible refine (HMX.out _).mono ?_); rintro r wq ⟨rfl, gq⟩; have hv := after hv gq; have ha := ha.below gq ha.lt; have hx := hx.below gq hx.lt; have hc := hc.below gq hc.lt; have hk := hk.below gq hk.lt; clear gq; have a0 := ha.cell 0; have a1 := ha.cell 1; have a2 := ha.cell 2; have x0 := hx.cell 0; have x1 := hx.cell 1; have x2 := hx.cell 2; have x3 := hx.cell 3; have c0 := hc.cell 0; have c1 := hc.cell 1; have c2 := hc.cell 2; have k0 := hk.cell 0; have k1 := hk.cell 1; have k2 := hk.cell 2; have k3 := hk.cell 3; simp at a0 a1 a2 x0 x1 x2 x3 c0 c1 c2 k0 k1 k2 k3)
      | (go_at_call 9; (with_reducible refine (HWK.out _ hv).mono ?_); rintro r wq ⟨rfl, gq⟩; have hv := after hv gq; clear gq))
    go_ret
    exact ⟨rfl, hv⟩
end Go.Proofs.YtomndcjgdfhmbaaGreatDoor

/- IpBack: the law, whole. (Printed by lw_close.py.) -/
namespace Go.Proofs.YtomndcjgdfhmbaaGreatDoor
open Go.RowKit

set_option maxHeartbeats 8000000 in
set_option maxRecDepth 100000 in
theorem back_any {w : World} (env : Env w) (p : Pk) (ok : p.Pre) (s : ByteArray) (a : Ad) (oka : a.Ok) (x : Pf) (okx : x.Ok) : Calls Tryz.prog 5 #[.agg p.cells, .string s, .agg a.cells, .agg x.cells] w (Got (.bool true) w) := by
  obtain ⟨⟨pv, ph, pl⟩, ⟨pv', ph', pl'⟩, pr, tt, D⟩ := p
  obtain ⟨av, ah, al⟩ := a
  obtain ⟨⟨xv, xh, xl⟩, xn⟩ := x
  by_cases h1 : D.size ≤ 8192
  · by_cases h2 : s.size ≤ 8192
    · exact back_main env pv pv' ph pl ph' pl' pr tt D s (ok.ok h1) h2 av ah al oka xv xh xl xn okx
    · have q1 : ¬ (8192 : Int) < (D.size : Int) := by omega
      have q2 : (8192 : Int) < (s.size : Int) := by omega
      have HWK := Lib.hid fun v (hv : Below w.heap.size w v) => works_any (env.below hv)
      have hp := ((Blk.new w 26 #[.bool pv, .int .u64 (ph : Int), .int .u64 (pl : Int), .bool pv', .int .u64 (ph' : Int), .int .u64 (pl' : Int), .int .u8 (pr : Int), .int .u8 (tt : Int), .string D]).alloc (.cells #[.bool av, .int .u64 (ah : Int), .int .u64 (al : Int)] 24)).alloc (.cells #[.bool xv, .int .u64 (xh : Int), .int .u64 (xl : Int), .int .u8 (xn : Int)] 39)
      have hv := three_boxed w (.cells #[.bool pv, .int .u64 (ph : Int), .int .u64 (pl : Int), .bool pv', .int .u64 (ph' : Int), .int .u64 (pl' : Int), .int .u8 (pr : Int), .int .u8 (tt : Int), .string D] 26) (.cells #[.bool av, .int .u64 (ah : Int), .int .u64 (al : Int)] 24) (.cells #[.bool xv, .int .u64 (xh : Int), .int .u64 (xl : Int), .int .u8 (xn : Int)] 39)
      clear env ok oka okx
      unfold Pk.cells Ad.cells Pf.cells
      go_enter Tryz.func5, Tryz.ntmps5
      go_upto_region 1 with fail
      generalize ((w.alloc (.cells #[.bool pv, .int .u64 (ph : Int), .int .u64 (pl : Int), .bool pv', .int .u64 (ph' : Int), .int .u64 (pl' : Int), .int .u8 (pr : Int), .int .u8 (tt : Int), .string D] 26)).alloc (.cells #[.bool av, .int .u64 (ah : Int), .int .u64 (al : Int)] 24)).alloc (.cells #[.bool xv, .int .u64 (xh : Int), .int .u64 (xl : Int), .int .u8 (xn : Int)] 39) = w0 at hp hv ⊢
      have p0 := hp.cell 0; have p1 := hp.cell 1; have p2 := hp.cell 2; have p3 := hp.cell 3; have p4 := hp.cell 4; have p5 := hp.cell 5; have p6 := hp.cell 6; have p7 := hp.cell 7; have p8 := hp.cell 8; simp at p0 p1 p2 p3 p4 p5 p6 p7 p8
      go_wp2_with (go_at_call 9; (with_reducible refine (HWK.out _ hv).mono ?_); rintro r wq ⟨rfl, gq⟩; have hv := after hv gq; clear gq)
      go_ret
      exact ⟨rfl, hv⟩
  · have q1 : (8192 : Int) < (D.size : Int) := by omega
    have HWK := Lib.hid fun v (hv : Below w.heap.size w v) => works_any (env.below hv)
    have hp := ((Blk.new w 26 #[.bool pv, .int .u64 (ph : Int), .int .u64 (pl : Int), .bool pv', .int .u64 (ph' : Int), .int .u64 (pl' : Int), .int .u8 (pr : Int), .int .u8 (tt : Int), .string D]).alloc (.cells #[.bool av, .int .u64 (ah : Int), .int .u64 (al : Int)] 24)).alloc (.cells #[.bool xv, .int .u64 (xh : Int), .int .u64 (xl : Int), .int .u8 (xn : Int)] 39)
    have hv := three_boxed w (.cells #[.bool pv, .int .u64 (ph : Int), .int .u64 (pl : Int), .bool pv', .int .u64 (ph' : Int), .int .u64 (pl' : Int), .int .u8 (pr : Int), .int .u8 (tt : Int), .string D] 26) (.cells #[.bool av, .int .u64 (ah : Int), .int .u64 (al : Int)] 24) (.cells #[.bool xv, .int .u64 (xh : Int), .int .u64 (xl : Int), .int .u8 (xn : Int)] 39)
    clear env ok oka okx
    unfold Pk.cells Ad.cells Pf.cells
    go_enter Tryz.func5, Tryz.ntmps5
    go_upto_region 1 with fail
    generalize ((w.alloc (.cells #[.bool pv, .int .u64 (ph : Int), .int .u64 (pl : Int), .bool pv', .int .u64 (ph' : Int), .int .u64 (pl' : Int), .int .u8 (pr : Int), .int .u8 (tt : Int), .string D] 26)).alloc (.cells #[.bool av, .int .u64 (ah : Int), .int .u64 (al : Int)] 24)).alloc (.cells #[.bool xv, .int .u64 (xh : Int), .int .u64 (xl : Int), .int .u8 (xn : Int)] 39) = w0 at hp hv ⊢
    have p0 := hp.cell 0; have p1 := hp.cell 1; have p2 := hp.cell 2; have p3 := hp.cell 3; have p4 := hp.cell 4; have p5 := hp.cell 5; have p6 := hp.cell 6; have p7 := hp.cell 7; have p8 := hp.cell 8; simp at p0 p1 p2 p3 p4 p5 p6 p7 p8
    go_wp2_with (go_at_call 9; (with_reducible refine (HWK.out _ hv).mono ?_); rintro r wq ⟨rfl, gq⟩; have hv := after hv gq; clear gq)
    go_ret
    exact ⟨rfl, hv⟩
end Go.Proofs.YtomndcjgdfhmbaaGreatDoor
