/- Joined out of: PxG. -/
import Derived.Test.YthglckoikjfjkaaGreatDoorSai
import Derived.Test.YthglckoikjfjkaaGreatDoorSae
set_option linter.unusedVariables false
set_option linter.unusedSimpArgs false

/- An accept as words (protoText, aclText): the walks. -/
namespace Go.Proofs.YthglckoikjfjkaaGreatDoor
open Go.RowKit
attribute [local go_sem ↓] Go.wp_at_zero Go.wp_at_succ

theorem itoa16 {w : World} (env : Env w) (x : Nat) (hx : x < 65536) : Calls Tryz.prog 87 #[.int .i64 (x : Int)] w (Got (.string ⟨(Lib.decDigits x).toArray⟩) w) := by
  refine (Tryz.strconv_Itoa (x : Int) (by omega) (by omega) w env.pow).mono ?_
  rintro r w' ⟨rfl, k, os, rfl⟩
  rw [itoa_nat]
  exact ⟨rfl, Lib.below_grow _ _ (Nat.le_refl _) _ _⟩
set_option maxHeartbeats 1000000 in
theorem protoText_any (x : Nat) (w : World) : Calls Tryz.prog 99 #[.int .u8 (x : Int)] w (Got (.string (ofL (protoT x))) w) := by
  have hb0 := Below.refl w.heap.size w
  by_cases h1 : x = 1
  · have e : ((x : Int) == 1) = true := by simp; omega
    have hO : ofL (protoT x) = W_icmp := by unfold protoT; rw [if_pos h1]; rfl
    have HO := Lib.hid hO
    clear h1 hO
    go_enter Tryz.func99, Tryz.ntmps99
    go_wp2_with fail
    go_ret
    exact ⟨by rw [HO.out]; rfl, hb0⟩
  have q1 : ((x : Int) == 1) = false := by simp; omega
  by_cases h6 : x = 6
  · have e : ((x : Int) == 6) = true := by simp; omega
    have hO : ofL (protoT x) = W_tcp := by unfold protoT; rw [if_neg h1, if_pos h6]; rfl
    have HO := Lib.hid hO
    clear h1 h6 hO
    go_enter Tryz.func99, Tryz.ntmps99
    go_wp2_with fail
    go_ret
    exact ⟨by rw [HO.out]; rfl, hb0⟩
  have q6 : ((x : Int) == 6) = false := by simp; omega
  have hO : ofL (protoT x) = W_udp := by unfold protoT; rw [if_neg h1, if_neg h6]; rfl
  have HO := Lib.hid hO
  clear h1 h6 hO
  go_enter Tryz.func99, Tryz.ntmps99
  go_wp2_with fail
  go_ret
  exact ⟨by rw [HO.out]; rfl, hb0⟩

theorem dec5 {x : Nat} (h : x < 65536) : (⟨(Lib.decDigits x).toArray⟩ : ByteArray).size ≤ 5 := by
  have h5 : (Lib.decDigits x).length ≤ 5 := by
    by_cases h1 : x < 1000
    · have := decL_len x h1; omega
    · have h3 := decL_len (x / 10 / 10) (by omega)
      rw [dec_ge (by omega), List.length_append, dec_ge (by omega), List.length_append]
      simp
      omega
  simpa [ByteArray.size] using h5
structure AcSmall (a : Ac) : Prop where
  fit : AcFit a
  pl : a.protos.length ≤ 3
  sl : a.src.length ≤ 64
  dl : a.dst.length ≤ 64
  ol : a.ports.length ≤ 64
theorem strs_append (a b : List (List UInt8)) : strCells (strs (a ++ b)) = strCells (strs a) ++ strCells (strs b) := by simp [strCells, strs]
theorem strs_one (s : List UInt8) : strCells (strs [s]) = [.string (ofL s)] := rfl
def pT (l : List (Nat × Nat)) : List (List UInt8) := if l = [] then [] else W_ports.data.toList :: l.map portT
theorem join_small : ∀ (l : List Nat), l.length ≤ 3 → (Lib.join (l.map protoT) [44]).length ≤ 100 := by
  intro l h
  have hp : ∀ x, (protoT x).length ≤ 4 := by intro x; unfold protoT; split; decide; split <;> decide
  match l, h with
  | [], _ => exact Nat.zero_le _
  | [a], _ => have := hp a; rw [List.map_cons, List.map_nil, Lib.join_one]; omega
  | [a, b], _ => have := hp a; have := hp b; rw [List.map_cons, List.map_cons, List.map_nil, join_cons2, Lib.join_one]; simp; omega
  | [a, b, c], _ => have := hp a; have := hp b; have := hp c; rw [List.map_cons, List.map_cons, List.map_cons, List.map_nil, join_cons2, join_cons2, Lib.join_one]; simp; omega

set_option maxHeartbeats 16000000 in
set_option maxRecDepth 100000 in
theorem aclText_any {w : World} (env : Env w) (X : AcV) (hx : AcRdM w X) (hs : AcSmall X.a) :
    Calls Tryz.prog 64 #[.agg #[X.p, X.s, X.d, X.o]] w fun r w' => (∃ v, r = .returned v ∧ w'.ownsRow w.heap.size 9 1 v (aclT X.a).length (strCells (strs (aclT X.a)))) ∧ Below w.heap.size w w' := by
  obtain ⟨Ap, cp, ep⟩ := hx.p.shape
  obtain ⟨As, cs, es⟩ := hx.s.shape
  obtain ⟨Ad, cd, ed⟩ := hx.d.shape
  obtain ⟨Ao, co, eo⟩ := hx.o.shape
  obtain ⟨⟨ps, src, dst, po⟩, pv, sv, dv, ov⟩ := X
  simp only at ep es ed eo ⊢
  subst ep es ed eo
  have hxp := hx.p
  have hxs := hx.s
  have hxd := hx.d
  have hxo := hx.o
  simp only at hxp hxs hxd hxo
  obtain ⟨NP, hNP⟩ : ∃ n, n = ps.length := ⟨_, rfl⟩
  obtain ⟨NS, hNS⟩ : ∃ n, n = src.length := ⟨_, rfl⟩
  obtain ⟨ND, hND⟩ : ∃ n, n = dst.length := ⟨_, rfl⟩
  obtain ⟨NO, hNO⟩ : ∃ n, n = po.length := ⟨_, rfl⟩
  have hpl : NP ≤ 3 := by rw [hNP]; exact hs.pl
  have hsl : NS ≤ 64 := by rw [hNS]; exact hs.sl
  have hdl : ND ≤ 64 := by rw [hND]; exact hs.dl
  have hol : NO ≤ 64 := by rw [hNO]; exact hs.ol
  rw [← hNP] at hxp ⊢
  rw [← hNS] at hxs ⊢
  rw [← hND] at hxd ⊢
  rw [← hNO] at hxo ⊢
  obtain ⟨OUT, hOUT⟩ : ∃ o, o = aclT ⟨ps, src, dst, po⟩ := ⟨_, rfl⟩
  rw [← hOUT]
  obtain ⟨BY, hBY⟩ : ∃ o, o = (if ps = [] then W_any.data.toList else Lib.join (ps.map protoT) [44]) := ⟨_, rfl⟩
  have hOUT2 : OUT = (([W_accept.data.toList, BY, W_from.data.toList] ++ src.map selT) ++ [W_to.data.toList] ++ dst.map selT) ++ pT po := by rw [hOUT, hBY]; unfold aclT pT; simp
  have B1 := Blk.new w 61 #[.slice Ap NP cp, .slice As NS cs, .slice Ad ND cd, .slice Ao NO co]
  have b1 := boxed w (.cells #[.slice Ap NP cp, .slice As NS cs, .slice Ad ND cd, .slice Ao NO co] 61)
  obtain ⟨i0, hi, hz0, hz1, hz2⟩ := info_parts info_str
  have HB1 := Lib.hid B1
  have Hb1 := Lib.hid b1
  have HXp := Lib.hid hxp
  have HXs := Lib.hid hxs
  have HXd := Lib.hid hxd
  have HXo := Lib.hid hxo
  have HS := Lib.hid hs
  have HNP := Lib.hid hNP
  have HNS := Lib.hid hNS
  have HND := Lib.hid hND
  have HNO := Lib.hid hNO
  have HOut := Lib.hid hOUT2
  have HBY := Lib.hid hBY
  have HEnv := Lib.hid env
  clear hx hxp hxs hxd hxo hs hNP hNS hND hNO hOUT hOUT2 hBY B1 b1 env
  go_enter Tryz.func64, Tryz.ntmps64
  go_upto_region 2 with fail
  generalize w.alloc (.cells #[.slice Ap NP cp, .slice As NS cs, .slice Ad ND cd, .slice Ao NO co] 61) = w1 at HB1 Hb1 ⊢
  obtain ⟨Q, hQ⟩ : ∃ q, q = w.heap.size := ⟨_, rfl⟩
  have HQ : RowKit.Hid (Blk w1 Q 61 #[.slice Ap NP cp, .slice As NS cs, .slice Ad ND cd, .slice Ao NO co]) := Lib.hid (by rw [hQ]; exact HB1.out)
  rw [← hQ]
  clear HB1 hQ
  have a0 := HQ.out.cell 0
  simp at a0
  by_cases hp0 : NP = 0
  · have hps : ps = [] := List.eq_nil_of_length_eq_zero (by have := HNP.out; omega)
    have HBs := Hb1
    have HQs := HQ
    have bye : (if ps = [] then W_any.data.toList else Lib.join (ps.map protoT) [44]) = W_any.data.toList := if_pos hps
    have HBye := Lib.hid bye
    have q0 : ¬ (0 : Int) < (NP : Int) := by omega
    clear bye hps hp0
    go_upto_region 11 with fail
    have o5 := World.ownsRow_lit (e := 9) (size := 1) (base := w.heap.size) w1 #[.string ⟨#[97, 99, 99, 101, 112, 116]⟩, .string (⟨#[97, 110, 121]⟩), .string ⟨#[102, 114, 111, 109]⟩] 3 HBs.out.size (by unfold maxLen; omega) rfl
    have b5 := boxed w1 (.cells #[.string ⟨#[97, 99, 99, 101, 112, 116]⟩, .string (⟨#[97, 110, 121]⟩), .string ⟨#[102, 114, 111, 109]⟩] 9)
    have OW5 : RowKit.Hid ((w1.alloc (.cells #[.string ⟨#[97, 99, 99, 101, 112, 116]⟩, .string (⟨#[97, 110, 121]⟩), .string ⟨#[102, 114, 111, 109]⟩] 9)).ownsRow w.heap.size 9 1 (.slice (some ⟨w1.heap.size, 0, none⟩) 3 3) 3 (strCells (strs ([W_accept.data.toList, BY, W_from.data.toList] ++ (src.take 0).map selT)))) := Lib.hid (by
      have e : strCells (strs ([W_accept.data.toList, BY, W_from.data.toList] ++ (src.take 0).map selT)) = [.string ⟨#[97, 99, 99, 101, 112, 116]⟩, .string (⟨#[97, 110, 121]⟩), .string ⟨#[102, 114, 111, 109]⟩] := by
        rw [HBY.out, HBye.out]
        rfl
      rw [e]
      exact o5)
    have HB5 := Lib.hid (after HBs.out b5)
    have HQ5 := Lib.hid (HQs.out.below b5 HQs.out.lt)
    clear o5 b5 HBs HQs
    generalize w1.alloc (.cells #[.string ⟨#[97, 99, 99, 101, 112, 116]⟩, .string (⟨#[97, 110, 121]⟩), .string ⟨#[102, 114, 111, 109]⟩] 9) = w5 at OW5 HB5 HQ5 ⊢
    generalize w1.heap.size = g5 at OW5 ⊢
    have a1 := HQ5.out.cell 1
    simp at a1
    go_wp2_with fail
    clear a1
    go_loopw [7, 39] (fun v7 v39 wr => ∃ (k n : Nat) (T : Option Addr) (ct : Nat), k ≤ NS ∧ v39 = .int .i64 (k : Int) ∧ v7 = .slice T n ct ∧ n ≤ 3 + k ∧ RowKit.Hid (wr.ownsRow w.heap.size 9 1 (.slice T n ct) n (strCells (strs ([W_accept.data.toList, BY, W_from.data.toList] ++ (src.take k).map selT)))) ∧ RowKit.Hid (Below w.heap.size w wr) ∧ RowKit.Hid (Blk wr Q 61 #[.slice Ap NP cp, .slice As NS cs, .slice Ad ND cd, .slice Ao NO co])) (fun _ v39 _ => NS - (intOf v39).toNat)
    case atStart => exact ⟨0, _, _, _, Nat.zero_le _, rfl, rfl, by omega, OW5, HB5, HQ5⟩
    case round =>
      obtain ⟨k, n, T, ct, hk, rfl, rfl, hn, OWr, HBr, HQr⟩ := hrel
      by_cases hlt : k < NS
      case pos =>
        have hkl : k < src.length := by have := HNS.out; omega
        obtain ⟨q, o, rfl, hc⟩ := HXs.out.cell HBr.out (by omega)
        have hXl : src[k]? = some src[k] := List.getElem?_eq_getElem hkl
        have htk := List.take_succ_eq_append_getElem hkl
        have hXf := HS.out.fit.src _ (List.getElem_mem hkl)
        generalize src[k] = Y at hXl htk hXf
        obtain ⟨e0, e1, e2, e3, e4, e5⟩ := selCells_at src k Y hXl
        have d0 := hc _ _ e0
        have d1 := hc _ _ e1
        have d2 := hc _ _ e2
        have d3 := hc _ _ e3
        have d4 := hc _ _ e4
        have d5 := hc _ _ e5
        rw [← Nat.add_assoc] at d1 d2 d3 d4 d5
        have htext := fun u (hu : Below w.heap.size w u) => selText_any (HEnv.out.below hu) Y hXf.ok (by have := hXf.name; omega)
        have hst : strCells (strs ([W_accept.data.toList, BY, W_from.data.toList] ++ (src.take (k + 1)).map selT)) = strCells (strs ([W_accept.data.toList, BY, W_from.data.toList] ++ (src.take k).map selT)) ++ [.string (selTB Y)] := by
          rw [htk, List.map_append, ← List.append_assoc, strs_append _ (List.map selT [Y])]
          rfl
        obtain ⟨y1, y2, ⟨⟨y3, y4, y5⟩, y6⟩⟩ := Y
        generalize selTB ⟨y1, y2, ⟨⟨y3, y4, y5⟩, y6⟩⟩ = TY at htext hst
        simp only at d0 d1 d2 d3 d4 d5 htext
        have HText := Lib.hid htext
        have HSt := Lib.hid hst
        clear htk hXl hXf e0 e1 e2 e3 e4 e5 htext hst hc hkl
        go_upto_region 14 with fail
        have M1 := Lib.hid (Blk.new wr 66 #[.int .u8 (y1 : Int), .string y2, .bool y3, .int .u64 (y4 : Int), .int .u64 (y5 : Int), .int .u8 (y6 : Int)])
        have q1 := boxed wr (.cells #[.int .u8 (y1 : Int), .string y2, .bool y3, .int .u64 (y4 : Int), .int .u64 (y5 : Int), .int .u8 (y6 : Int)] 66)
        have OWa := Lib.hid (own_below OWr.out q1)
        have HBa := Lib.hid (after HBr.out q1)
        have HQa := Lib.hid (HQr.out.below q1 HQr.out.lt)
        generalize wr.alloc (.cells #[.int .u8 (y1 : Int), .string y2, .bool y3, .int .u64 (y4 : Int), .int .u64 (y5 : Int), .int .u8 (y6 : Int)] 66) = wa at M1 q1 OWa HBa HQa ⊢
        generalize wr.heap.size = M at M1 ⊢
        clear q1 OWr HBr HQr d0 d1 d2 d3 d4 d5
        have m0 := M1.out.cell 0
        have m1 := M1.out.cell 1
        have m2 := M1.out.cell 2
        have m3 := M1.out.cell 3
        have m4 := M1.out.cell 4
        have m5 := M1.out.cell 5
        simp at m0 m1 m2 m3 m4 m5
        go_wp2_with (first
          | (go_at_call 100; (with_reducible refine (HText.out _ HBa.out).mono ?_); rintro r wb ⟨rfl, db⟩; have OWb := Lib.hid (own_below OWa.out db); have HBb := Lib.hid (after HBa.out db); have HQb := Lib.hid (HQa.out.below db HQa.out.lt))
          | (at_builtin; refine wpList_append_own _ rfl _ _ 50 rfl w.heap.size 9 i0 (.string ByteArray.empty) 1 16 Tryz.underlying50 hi hz0 hz1 hz2 rfl (by decide) _ n _ rfl (OWb.out.alloc _) ⟨wb.heap.size, 0, none⟩ 1 1 [.string (TY)] rfl rfl (cell_one_new _ _ _) (fun x hx => by simp at hx; subst hx; rfl) (by unfold maxLen; omega) (by omega) (by have := HBb.out.size; simp; omega) ?_; intro v' wc hown' hgrow hnil; obtain ⟨Tc, cc, rfl⟩ := own_shape hown'; have OWc := Lib.hid hown'; have HBc := Lib.hid ((HBb.out.alloc HBb.out.size (.cells #[.string (TY)] 9)).grown hgrow (by have := HBb.out.size; simp; omega) (fun q hq => (OWb.out.lt q hq).1)); have HQc := Lib.hid ((HQb.out.alloc (.cells #[.string (TY)] 9)).off (Keeps.row hgrow) (ownOff (OWb.out.alloc (.cells #[.string (TY)] 9))) (by decide)); clear hown' hgrow hnil)
        )
        go_roundw
        case rel => exact ⟨k + 1, n + 1, Tc, cc, by omega, by go_num, rfl, by omega, Lib.hid (by rw [HSt.out]; exact OWc.out), HBc, HQc⟩
        case measure => simp [intOf]; omega
      obtain rfl : NS = k := by omega
      clear OW5 HB5 HQ5
      have OWr2 : RowKit.Hid (wr.ownsRow w.heap.size 9 1 (.slice T n ct) n (strCells (strs ([W_accept.data.toList, BY, W_from.data.toList] ++ src.map selT)))) := Lib.hid (by have := OWr.out; rwa [List.take_of_length_le (by have := HNS.out; omega)] at this)
      clear OWr
      obtain ⟨wo, rfl⟩ : ∃ wo : World, wo = wr := ⟨_, rfl⟩
      go_upto_region 17 with (at_builtin; refine wpList_append_own _ rfl _ _ 50 rfl w.heap.size 9 i0 (.string ByteArray.empty) 1 16 Tryz.underlying50 hi hz0 hz1 hz2 rfl (by decide) _ n _ rfl (OWr2.out.alloc _) ⟨wo.heap.size, 0, none⟩ 1 1 [.string (⟨#[116, 111]⟩)] rfl rfl (cell_one_new _ _ _) (fun x hx => by simp at hx; subst hx; rfl) (by unfold maxLen; omega) (by omega) (by have := HBr.out.size; simp; omega) ?_; intro v' w6 hown' hgrow hnil; obtain ⟨T6, c6, rfl⟩ := own_shape hown'; have OW6 := Lib.hid hown'; have HB6 := Lib.hid ((HBr.out.alloc HBr.out.size (.cells #[.string (⟨#[116, 111]⟩)] 9)).grown hgrow (by have := HBr.out.size; simp; omega) (fun q hq => (OWr2.out.lt q hq).1)); have HQ6 := Lib.hid ((HQr.out.alloc (.cells #[.string (⟨#[116, 111]⟩)] 9)).off (Keeps.row hgrow) (ownOff (OWr2.out.alloc (.cells #[.string (⟨#[116, 111]⟩)] 9))) (by decide)); clear hown' hgrow hnil)
      have OW6' : RowKit.Hid (w6.ownsRow w.heap.size 9 1 (.slice T6 (n + 1) c6) (n + 1) (strCells (strs (([W_accept.data.toList, BY, W_from.data.toList] ++ src.map selT ++ [W_to.data.toList]) ++ (dst.take 0).map selT)))) := Lib.hid (by
        have := OW6.out
        rw [List.take_zero, List.map_nil, List.append_nil, strs_append _ [W_to.data.toList]]
        exact this)
      clear OW6 OWr2 HBr HQr
      have hn6 : n + 1 ≤ 68 := by omega
      have a2 := HQ6.out.cell 2
      simp at a2
      go_wp2_with fail
      clear a2
      go_loopw [7, 55] (fun v7 v39 wr => ∃ (k n : Nat) (T : Option Addr) (ct : Nat), k ≤ ND ∧ v39 = .int .i64 (k : Int) ∧ v7 = .slice T n ct ∧ n ≤ 68 + k ∧ RowKit.Hid (wr.ownsRow w.heap.size 9 1 (.slice T n ct) n (strCells (strs (([W_accept.data.toList, BY, W_from.data.toList] ++ src.map selT ++ [W_to.data.toList]) ++ (dst.take k).map selT)))) ∧ RowKit.Hid (Below w.heap.size w wr) ∧ RowKit.Hid (Blk wr Q 61 #[.slice Ap NP cp, .slice As NS cs, .slice Ad ND cd, .slice Ao NO co])) (fun _ v39 _ => ND - (intOf v39).toNat)
      case atStart => exact ⟨0, _, _, _, Nat.zero_le _, rfl, rfl, by omega, OW6', HB6, HQ6⟩
      case round =>
        obtain ⟨k, n, T, ct, hk, rfl, rfl, hn, OWr, HBr, HQr⟩ := hrel
        by_cases hlt : k < ND
        case pos =>
          have hkl : k < dst.length := by have := HND.out; omega
          obtain ⟨q, o, rfl, hc⟩ := HXd.out.cell HBr.out (by omega)
          have hXl : dst[k]? = some dst[k] := List.getElem?_eq_getElem hkl
          have htk := List.take_succ_eq_append_getElem hkl
          have hXf := HS.out.fit.dst _ (List.getElem_mem hkl)
          generalize dst[k] = Y at hXl htk hXf
          obtain ⟨e0, e1, e2, e3, e4, e5⟩ := selCells_at dst k Y hXl
          have d0 := hc _ _ e0
          have d1 := hc _ _ e1
          have d2 := hc _ _ e2
          have d3 := hc _ _ e3
          have d4 := hc _ _ e4
          have d5 := hc _ _ e5
          rw [← Nat.add_assoc] at d1 d2 d3 d4 d5
          have htext := fun u (hu : Below w.heap.size w u) => selText_any (HEnv.out.below hu) Y hXf.ok (by have := hXf.name; omega)
          have hst : strCells (strs (([W_accept.data.toList, BY, W_from.data.toList] ++ src.map selT ++ [W_to.data.toList]) ++ (dst.take (k + 1)).map selT)) = strCells (strs (([W_accept.data.toList, BY, W_from.data.toList] ++ src.map selT ++ [W_to.data.toList]) ++ (dst.take k).map selT)) ++ [.string (selTB Y)] := by
            rw [htk, List.map_append, ← List.append_assoc, strs_append _ (List.map selT [Y])]
            rfl
          obtain ⟨y1, y2, ⟨⟨y3, y4, y5⟩, y6⟩⟩ := Y
          generalize selTB ⟨y1, y2, ⟨⟨y3, y4, y5⟩, y6⟩⟩ = TY at htext hst
          simp only at d0 d1 d2 d3 d4 d5 htext
          have HText := Lib.hid htext
          have HSt := Lib.hid hst
          clear htk hXl hXf e0 e1 e2 e3 e4 e5 htext hst hc hkl
          go_upto_region 20 with fail
          have M1 := Lib.hid (Blk.new wr 66 #[.int .u8 (y1 : Int), .string y2, .bool y3, .int .u64 (y4 : Int), .int .u64 (y5 : Int), .int .u8 (y6 : Int)])
          have q1 := boxed wr (.cells #[.int .u8 (y1 : Int), .string y2, .bool y3, .int .u64 (y4 : Int), .int .u64 (y5 : Int), .int .u8 (y6 : Int)] 66)
          have OWa := Lib.hid (own_below OWr.out q1)
          have HBa := Lib.hid (after HBr.out q1)
          have HQa := Lib.hid (HQr.out.below q1 HQr.out.lt)
          generalize wr.alloc (.cells #[.int .u8 (y1 : Int), .string y2, .bool y3, .int .u64 (y4 : Int), .int .u64 (y5 : Int), .int .u8 (y6 : Int)] 66) = wa at M1 q1 OWa HBa HQa ⊢
          generalize wr.heap.size = M at M1 ⊢
          clear q1 OWr HBr HQr d0 d1 d2 d3 d4 d5
          have m0 := M1.out.cell 0
          have m1 := M1.out.cell 1
          have m2 := M1.out.cell 2
          have m3 := M1.out.cell 3
          have m4 := M1.out.cell 4
          have m5 := M1.out.cell 5
          simp at m0 m1 m2 m3 m4 m5
          go_wp2_with (first
            | (go_at_call 100; (with_reducible refine (HText.out _ HBa.out).mono ?_); rintro r wb ⟨rfl, db⟩; have OWb := Lib.hid (own_below OWa.out db); have HBb := Lib.hid (after HBa.out db); have HQb := Lib.hid (HQa.out.below db HQa.out.lt))
            | (at_builtin; refine wpList_append_own _ rfl _ _ 50 rfl w.heap.size 9 i0 (.string ByteArray.empty) 1 16 Tryz.underlying50 hi hz0 hz1 hz2 rfl (by decide) _ n _ rfl (OWb.out.alloc _) ⟨wb.heap.size, 0, none⟩ 1 1 [.string (TY)] rfl rfl (cell_one_new _ _ _) (fun x hx => by simp at hx; subst hx; rfl) (by unfold maxLen; omega) (by omega) (by have := HBb.out.size; simp; omega) ?_; intro v' wc hown' hgrow hnil; obtain ⟨Tc, cc, rfl⟩ := own_shape hown'; have OWc := Lib.hid hown'; have HBc := Lib.hid ((HBb.out.alloc HBb.out.size (.cells #[.string (TY)] 9)).grown hgrow (by have := HBb.out.size; simp; omega) (fun q hq => (OWb.out.lt q hq).1)); have HQc := Lib.hid ((HQb.out.alloc (.cells #[.string (TY)] 9)).off (Keeps.row hgrow) (ownOff (OWb.out.alloc (.cells #[.string (TY)] 9))) (by decide)); clear hown' hgrow hnil)
          )
          go_roundw
          case rel => exact ⟨k + 1, n + 1, Tc, cc, by omega, by go_num, rfl, by omega, Lib.hid (by rw [HSt.out]; exact OWc.out), HBc, HQc⟩
          case measure => simp [intOf]; omega
        obtain rfl : ND = k := by omega
        clear OW6' HB6 HQ6
        have OWr3 : RowKit.Hid (wr.ownsRow w.heap.size 9 1 (.slice T n ct) n (strCells (strs ((([W_accept.data.toList, BY, W_from.data.toList] ++ src.map selT ++ [W_to.data.toList]) ++ dst.map selT) ++ pT (po.take 0))))) := Lib.hid (by have := OWr.out; rw [List.take_of_length_le (by have := HND.out; omega)] at this; rw [show pT (po.take 0) = [] from rfl, List.append_nil]; exact this)
        clear OWr
        obtain ⟨wo2, rfl⟩ : ∃ wo : World, wo = wr := ⟨_, rfl⟩
        have hn7 : n ≤ 140 := by omega
        have a3 := HQr.out.cell 3
        simp at a3
        have HBq := HBr
        have HQq := HQr
        clear HBr HQr
        go_wp2_with fail
        clear a3
        go_loopw [7, 68] (fun v7 v68 wr => ∃ (k n : Nat) (T : Option Addr) (ct : Nat), k ≤ NO ∧ v68 = .int .i64 (k : Int) ∧ v7 = .slice T n ct ∧ n ≤ 140 + 2 * k ∧ RowKit.Hid (wr.ownsRow w.heap.size 9 1 (.slice T n ct) n (strCells (strs ((([W_accept.data.toList, BY, W_from.data.toList] ++ src.map selT ++ [W_to.data.toList]) ++ dst.map selT) ++ pT (po.take k))))) ∧ RowKit.Hid (Below w.heap.size w wr) ∧ RowKit.Hid (Blk wr Q 61 #[.slice Ap NP cp, .slice As NS cs, .slice Ad ND cd, .slice Ao NO co])) (fun _ v68 _ => NO - (intOf v68).toNat)
        case atStart => exact ⟨0, _, _, _, Nat.zero_le _, rfl, rfl, by omega, OWr3, HBq, HQq⟩
        case round =>
          clear OWr3 HBq HQq
          obtain ⟨k, n, T, ct, hk, rfl, rfl, hn, OWr, HBr, HQr⟩ := hrel
          by_cases hlt : k < NO
          case pos =>
            have hkl : k < po.length := by have := HNO.out; omega
            obtain ⟨q, o, rfl, hc⟩ := HXo.out.cell HBr.out (by omega)
            have hXl : po[k]? = some po[k] := List.getElem?_eq_getElem hkl
            have htk := List.take_succ_eq_append_getElem hkl
            have hXf := HS.out.fit.ob _ (List.getElem_mem hkl)
            generalize po[k] = Y at hXl htk hXf
            obtain ⟨e0, e1⟩ := portCells_at po k Y hXl
            have d0 := hc _ _ e0
            have d1 := hc _ _ e1
            rw [← Nat.add_assoc] at d1
            obtain ⟨y1, y2⟩ := Y
            simp only at d0 d1 hXf
            have hi1 := fun u (hu : Below w.heap.size w u) => itoa16 (HEnv.out.below hu) y1 hXf.1
            have hi2 := fun u (hu : Below w.heap.size w u) => itoa16 (HEnv.out.below hu) y2 hXf.2
            have hs1 : (⟨(Lib.decDigits y1).toArray⟩ : ByteArray).size ≤ 5 := dec5 hXf.1
            have hs2 : (⟨(Lib.decDigits y2).toArray⟩ : ByteArray).size ≤ 5 := dec5 hXf.2
            have hpt : ofL (portT (y1, y2)) = if y2 ≠ y1 then ⟨(Lib.decDigits y1).toArray⟩ ++ (⟨#[45]⟩ ++ ⟨(Lib.decDigits y2).toArray⟩) else ⟨(Lib.decDigits y1).toArray⟩ := by
              unfold portT
              simp only
              split
              · apply ByteArray.ext; simp [ofL]
              · simp [ofL]
            generalize (⟨(Lib.decDigits y1).toArray⟩ : ByteArray) = D1 at hi1 hs1 hpt
            generalize (⟨(Lib.decDigits y2).toArray⟩ : ByteArray) = D2 at hi2 hs2 hpt
            have w1' : IntKind.i64.wrap (y1 : Int) = (y1 : Int) := by rw [IntKind.wrap_i64]; omega
            have w2' : IntKind.i64.wrap (y2 : Int) = (y2 : Int) := by rw [IntKind.wrap_i64]; omega
            have z1 : ¬ 9223372036854775807 < 1 + D2.size := by omega
            have z2 : ¬ 9223372036854775807 < D1.size + (1 + D2.size) := by omega
            have hstep : pT (po.take (k + 1)) = (if k = 0 then [W_ports.data.toList] else pT (po.take k)) ++ [portT (y1, y2)] := by
              rw [htk]
              by_cases hk0 : k = 0
              · subst hk0; rfl
              · rw [if_neg hk0]
                unfold pT
                rw [if_neg (by simp), if_neg (by intro e; have h0 := congrArg List.length e; rw [List.length_take, Nat.min_eq_left (by omega)] at h0; exact hk0 h0), List.map_append]
                rfl
            have HI1 := Lib.hid hi1
            have HI2 := Lib.hid hi2
            have HPt := Lib.hid hpt
            have HStep := Lib.hid hstep
            clear hi1 hi2 hpt hstep htk hXl hXf e0 e1 hc hkl
            go_upto_region 25 with fail
            have M1 := Lib.hid (Blk.new wr 68 #[.int .u16 (y1 : Int), .int .u16 (y2 : Int)])
            have q1 := boxed wr (.cells #[.int .u16 (y1 : Int), .int .u16 (y2 : Int)] 68)
            have OWa := Lib.hid (own_below OWr.out q1)
            have HBa := Lib.hid (after HBr.out q1)
            have HQa := Lib.hid (HQr.out.below q1 HQr.out.lt)
            generalize wr.alloc (.cells #[.int .u16 (y1 : Int), .int .u16 (y2 : Int)] 68) = wa at M1 q1 OWa HBa HQa ⊢
            generalize wr.heap.size = M at M1 ⊢
            clear q1 OWr HBr HQr d0 d1
            by_cases hk0 : k = 0
            case pos =>
              have j0 : ((k : Int) == 0) = true := by simp; omega
              have hpk : pT (po.take k) = [] := by rw [hk0]; rfl
              have HPk := Lib.hid hpk
              have HK0 := Lib.hid hk0
              clear hpk hk0
              go_upto_region 27 with (at_builtin; refine wpList_append_own _ rfl _ _ 50 rfl w.heap.size 9 i0 (.string ByteArray.empty) 1 16 Tryz.underlying50 hi hz0 hz1 hz2 rfl (by decide) _ n _ rfl (OWa.out.alloc _) ⟨wa.heap.size, 0, none⟩ 1 1 [.string (⟨#[112, 111, 114, 116, 115]⟩)] rfl rfl (cell_one_new _ _ _) (fun x hx => by simp at hx; subst hx; rfl) (by unfold maxLen; omega) (by omega) (by have := HBa.out.size; simp; omega) ?_; intro v' wp hown' hgrow hnil; obtain ⟨Tp, cp', rfl⟩ := own_shape hown'; have OWp0 := Lib.hid hown'; have HBp := Lib.hid ((HBa.out.alloc HBa.out.size (.cells #[.string (⟨#[112, 111, 114, 116, 115]⟩)] 9)).grown hgrow (by have := HBa.out.size; simp; omega) (fun q hq => (OWa.out.lt q hq).1)); have HQp := Lib.hid ((HQa.out.alloc (.cells #[.string (⟨#[112, 111, 114, 116, 115]⟩)] 9)).off (Keeps.row hgrow) (ownOff (OWa.out.alloc (.cells #[.string (⟨#[112, 111, 114, 116, 115]⟩)] 9))) (by decide)); have MBp := Lib.hid ((M1.out.alloc (.cells #[.string (⟨#[112, 111, 114, 116, 115]⟩)] 9)).off (Keeps.row hgrow) (ownOff (OWa.out.alloc (.cells #[.string (⟨#[112, 111, 114, 116, 115]⟩)] 9))) (by decide)); clear hown' hgrow hnil)
              have OWp : RowKit.Hid (wp.ownsRow w.heap.size 9 1 (.slice Tp (n + 1) cp') (n + 1) (strCells (strs ((([W_accept.data.toList, BY, W_from.data.toList] ++ src.map selT ++ [W_to.data.toList]) ++ dst.map selT) ++ [W_ports.data.toList])))) := Lib.hid (by
                have := OWp0.out
                rw [HPk.out, List.append_nil] at this
                rw [strs_append _ [W_ports.data.toList]]
                exact this)
              clear OWp0
              obtain ⟨n2, hn2⟩ : ∃ m, m = n + 1 := ⟨_, rfl⟩
              rw [← hn2] at OWp ⊢
              have hn3 : n2 ≤ 141 + 2 * k := by omega
              clear hn2
              have m0 := MBp.out.cell 0
              simp at m0
              go_upto_region 28 with (go_at_call 87; (with_reducible refine (HI1.out _ HBp.out).mono ?_); rintro r wi ⟨rfl, di⟩)
              have OWi := Lib.hid (own_below OWp.out di)
              have HBi := Lib.hid (after HBp.out di)
              have HQi := Lib.hid (HQp.out.below di HQp.out.lt)
              have MBi := Lib.hid (MBp.out.below di MBp.out.lt)
              clear OWp HBp HQp MBp di m0
              have m0 := MBi.out.cell 0
              have m1 := MBi.out.cell 1
              simp at m0 m1
              by_cases hyy : y2 = y1
              case pos =>
                have e2 : ((y2 : Int) == (y1 : Int)) = true := by simp; omega
                have hO : ofL (portT (y1, y2)) = D1 := by rw [HPt.out, if_neg (fun h => h hyy)]
                have HO := Lib.hid hO
                clear hO hyy
                go_wp2_with (at_builtin; refine wpList_append_own _ rfl _ _ 50 rfl w.heap.size 9 i0 (.string ByteArray.empty) 1 16 Tryz.underlying50 hi hz0 hz1 hz2 rfl (by decide) _ n2 _ rfl (OWi.out.alloc _) ⟨wi.heap.size, 0, none⟩ 1 1 [.string (D1)] rfl rfl (cell_one_new _ _ _) (fun x hx => by simp at hx; subst hx; rfl) (by unfold maxLen; omega) (by omega) (by have := HBi.out.size; simp; omega) ?_; intro v' wc hown' hgrow hnil; obtain ⟨Tc, cc, rfl⟩ := own_shape hown'; have OWc := Lib.hid hown'; have HBc := Lib.hid ((HBi.out.alloc HBi.out.size (.cells #[.string (D1)] 9)).grown hgrow (by have := HBi.out.size; simp; omega) (fun q hq => (OWi.out.lt q hq).1)); have HQc := Lib.hid ((HQi.out.alloc (.cells #[.string (D1)] 9)).off (Keeps.row hgrow) (ownOff (OWi.out.alloc (.cells #[.string (D1)] 9))) (by decide)); clear hown' hgrow hnil)
                go_roundw
                case rel =>
                  skip
                  exact ⟨k + 1, n2 + 1, Tc, cc, by omega, by go_num, rfl, by omega, Lib.hid (by rw [HStep.out, ← List.append_assoc, strs_append _ [portT (y1, y2)], strs_one, HO.out, if_pos HK0.out]; exact OWc.out), HBc, HQc⟩
                case measure => simp [intOf]; omega
              have e2 : ((y2 : Int) == (y1 : Int)) = false := by simp; omega
              have hO : ofL (portT (y1, y2)) = D1 ++ (⟨#[45]⟩ ++ D2) := by rw [HPt.out, if_pos hyy]
              have HO := Lib.hid hO
              clear hO hyy
              go_wp2_with (first
                | (go_at_call 87; (with_reducible refine (HI2.out _ HBi.out).mono ?_); rintro r wj ⟨rfl, dj⟩; have OWj := Lib.hid (own_below OWi.out dj); have HBj := Lib.hid (after HBi.out dj); have HQj := Lib.hid (HQi.out.below dj HQi.out.lt))
                | (at_builtin; refine wpList_append_own _ rfl _ _ 50 rfl w.heap.size 9 i0 (.string ByteArray.empty) 1 16 Tryz.underlying50 hi hz0 hz1 hz2 rfl (by decide) _ n2 _ rfl (OWj.out.alloc _) ⟨wj.heap.size, 0, none⟩ 1 1 [.string (D1 ++ (⟨#[45]⟩ ++ D2))] rfl rfl (cell_one_new _ _ _) (fun x hx => by simp at hx; subst hx; rfl) (by unfold maxLen; omega) (by omega) (by have := HBj.out.size; simp; omega) ?_; intro v' wc hown' hgrow hnil; obtain ⟨Tc, cc, rfl⟩ := own_shape hown'; have OWc := Lib.hid hown'; have HBc := Lib.hid ((HBj.out.alloc HBj.out.size (.cells #[.string (D1 ++ (⟨#[45]⟩ ++ D2))] 9)).grown hgrow (by have := HBj.out.size; simp; omega) (fun q hq => (OWj.out.lt q hq).1)); have HQc := Lib.hid ((HQj.out.alloc (.cells #[.string (D1 ++ (⟨#[45]⟩ ++ D2))] 9)).off (Keeps.row hgrow) (ownOff (OWj.out.alloc (.cells #[.string (D1 ++ (⟨#[45]⟩ ++ D2))] 9))) (by decide)); clear hown' hgrow hnil)
                )
              go_roundw
              case rel =>
                skip
                exact ⟨k + 1, n2 + 1, Tc, cc, by omega, by go_num, rfl, by omega, Lib.hid (by rw [HStep.out, ← List.append_assoc, strs_append _ [portT (y1, y2)], strs_one, HO.out, if_pos HK0.out]; exact OWc.out), HBc, HQc⟩
              case measure => simp [intOf]; omega
            have j0 : ((k : Int) == 0) = false := by simp; omega
            have HK0 := Lib.hid hk0
            have OWp := OWa
            have HBp := HBa
            have HQp := HQa
            have MBp := M1
            clear OWa HBa HQa M1 hk0
            have m0 := MBp.out.cell 0
            simp at m0
            go_upto_region 28 with (go_at_call 87; (with_reducible refine (HI1.out _ HBp.out).mono ?_); rintro r wi ⟨rfl, di⟩)
            have OWi := Lib.hid (own_below OWp.out di)
            have HBi := Lib.hid (after HBp.out di)
            have HQi := Lib.hid (HQp.out.below di HQp.out.lt)
            have MBi := Lib.hid (MBp.out.below di MBp.out.lt)
            clear OWp HBp HQp MBp di m0
            have m0 := MBi.out.cell 0
            have m1 := MBi.out.cell 1
            simp at m0 m1
            by_cases hyy : y2 = y1
            case pos =>
              have e2 : ((y2 : Int) == (y1 : Int)) = true := by simp; omega
              have hO : ofL (portT (y1, y2)) = D1 := by rw [HPt.out, if_neg (fun h => h hyy)]
              have HO := Lib.hid hO
              clear hO hyy
              go_wp2_with (at_builtin; refine wpList_append_own _ rfl _ _ 50 rfl w.heap.size 9 i0 (.string ByteArray.empty) 1 16 Tryz.underlying50 hi hz0 hz1 hz2 rfl (by decide) _ n _ rfl (OWi.out.alloc _) ⟨wi.heap.size, 0, none⟩ 1 1 [.string (D1)] rfl rfl (cell_one_new _ _ _) (fun x hx => by simp at hx; subst hx; rfl) (by unfold maxLen; omega) (by omega) (by have := HBi.out.size; simp; omega) ?_; intro v' wc hown' hgrow hnil; obtain ⟨Tc, cc, rfl⟩ := own_shape hown'; have OWc := Lib.hid hown'; have HBc := Lib.hid ((HBi.out.alloc HBi.out.size (.cells #[.string (D1)] 9)).grown hgrow (by have := HBi.out.size; simp; omega) (fun q hq => (OWi.out.lt q hq).1)); have HQc := Lib.hid ((HQi.out.alloc (.cells #[.string (D1)] 9)).off (Keeps.row hgrow) (ownOff (OWi.out.alloc (.cells #[.string (D1)] 9))) (by decide)); clear hown' hgrow hnil)
              go_roundw
              case rel =>
                skip
                exact ⟨k + 1, n + 1, Tc, cc, by omega, by go_num, rfl, by omega, Lib.hid (by rw [HStep.out, ← List.append_assoc, strs_append _ [portT (y1, y2)], strs_one, HO.out, if_neg HK0.out]; exact OWc.out), HBc, HQc⟩
              case measure => simp [intOf]; omega
            have e2 : ((y2 : Int) == (y1 : Int)) = false := by simp; omega
            have hO : ofL (portT (y1, y2)) = D1 ++ (⟨#[45]⟩ ++ D2) := by rw [HPt.out, if_pos hyy]
            have HO := Lib.hid hO
            clear hO hyy
            go_wp2_with (first
              | (go_at_call 87; (with_reducible refine (HI2.out _ HBi.out).mono ?_); rintro r wj ⟨rfl, dj⟩; have OWj := Lib.hid (own_below OWi.out dj); have HBj := Lib.hid (after HBi.out dj); have HQj := Lib.hid (HQi.out.below dj HQi.out.lt))
              | (at_builtin; refine wpList_append_own _ rfl _ _ 50 rfl w.heap.size 9 i0 (.string ByteArray.empty) 1 16 Tryz.underlying50 hi hz0 hz1 hz2 rfl (by decide) _ n _ rfl (OWj.out.alloc _) ⟨wj.heap.size, 0, none⟩ 1 1 [.string (D1 ++ (⟨#[45]⟩ ++ D2))] rfl rfl (cell_one_new _ _ _) (fun x hx => by simp at hx; subst hx; rfl) (by unfold maxLen; omega) (by omega) (by have := HBj.out.size; simp; omega) ?_; intro v' wc hown' hgrow hnil; obtain ⟨Tc, cc, rfl⟩ := own_shape hown'; have OWc := Lib.hid hown'; have HBc := Lib.hid ((HBj.out.alloc HBj.out.size (.cells #[.string (D1 ++ (⟨#[45]⟩ ++ D2))] 9)).grown hgrow (by have := HBj.out.size; simp; omega) (fun q hq => (OWj.out.lt q hq).1)); have HQc := Lib.hid ((HQj.out.alloc (.cells #[.string (D1 ++ (⟨#[45]⟩ ++ D2))] 9)).off (Keeps.row hgrow) (ownOff (OWj.out.alloc (.cells #[.string (D1 ++ (⟨#[45]⟩ ++ D2))] 9))) (by decide)); clear hown' hgrow hnil)
              )
            go_roundw
            case rel =>
              skip
              exact ⟨k + 1, n + 1, Tc, cc, by omega, by go_num, rfl, by omega, Lib.hid (by rw [HStep.out, ← List.append_assoc, strs_append _ [portT (y1, y2)], strs_one, HO.out, if_neg HK0.out]; exact OWc.out), HBc, HQc⟩
            case measure => simp [intOf]; omega
          have hfin : pT (po.take k) = pT po := by rw [List.take_of_length_le (by have := HNO.out; omega)]
          have hOutL : (strCells (strs OUT)).length = OUT.length := by simp [strCells, strs]
          have ho := OWr.out
          rw [hfin, ← HOut.out] at ho
          have hnl : n = OUT.length := by
            have := ho.1
            rw [hOutL] at this
            omega
          have HNl := Lib.hid hnl
          have HOw := Lib.hid ho
          clear hfin hOutL ho hnl OWr
          go_wp2_with fail
          refine bodyPost_ret (results_tmp rfl _ _ _) rfl ⟨⟨_, rfl, ?_⟩, HBr.out⟩
          rw [← HNl.out]
          exact HOw.out
  · have q0 : (0 : Int) < (NP : Int) := by omega
    have hpne : ¬ ps = [] := fun e => hp0 (by have := HNP.out; rw [e] at this; exact this)
    have bye : (if ps = [] then W_any.data.toList else Lib.join (ps.map protoT) [44]) = Lib.join (ps.map protoT) [44] := if_neg hpne
    have HBye := Lib.hid bye
    clear bye hpne hp0
    go_wp2_with fail
    clear a0
    go_loopw [4, 22] (fun v4 v22 wr => ∃ (k n : Nat) (T : Option Addr) (ct : Nat), k ≤ NP ∧ v22 = .int .i64 (k : Int) ∧ v4 = .slice T n ct ∧ n ≤ k ∧ RowKit.Hid (wr.ownsRow w.heap.size 9 1 (.slice T n ct) n (strCells (strs ((ps.take k).map protoT)))) ∧ RowKit.Hid (Below w.heap.size w wr) ∧ RowKit.Hid (Blk wr Q 61 #[.slice Ap NP cp, .slice As NS cs, .slice Ad ND cd, .slice Ao NO co])) (fun _ v22 _ => NP - (intOf v22).toNat)
    case atStart => exact ⟨0, 0, none, 0, Nat.zero_le _, rfl, rfl, Nat.le_refl _, Lib.hid (World.ownsRow_nil _ _ _ _), Hb1, HQ⟩
    case round =>
      obtain ⟨k, n, T, ct, hk, rfl, rfl, hn, OWr, HBr, HQr⟩ := hrel
      by_cases hlt : k < NP
      case pos =>
        have hkl : k < ps.length := by have := HNP.out; omega
        obtain ⟨q, o, rfl, hc⟩ := HXp.out.cell HBr.out (by omega)
        have hXl : ps[k]? = some ps[k] := List.getElem?_eq_getElem hkl
        have htk := List.take_succ_eq_append_getElem hkl
        generalize ps[k] = x at hXl htk
        have d0 := hc _ _ (protoCells_at hXl)
        have hpt := protoText_any x wr
        have hst : strCells (strs ((ps.take (k + 1)).map protoT)) = strCells (strs ((ps.take k).map protoT)) ++ [.string (ofL (protoT x))] := by
          rw [htk, List.map_append, strs_append _ (List.map protoT [x])]
          rfl
        generalize ofL (protoT x) = TY at hpt hst
        have HPt := Lib.hid hpt
        have HSt := Lib.hid hst
        clear hpt hst hXl htk hc hkl
        go_wp2_with (first
          | (go_at_call 99; (with_reducible refine HPt.out.mono ?_); rintro r wb ⟨rfl, db⟩; have OWb := Lib.hid (own_below OWr.out db); have HBb := Lib.hid (after HBr.out db); have HQb := Lib.hid (HQr.out.below db HQr.out.lt))
          | (at_builtin; refine wpList_append_own _ rfl _ _ 50 rfl w.heap.size 9 i0 (.string ByteArray.empty) 1 16 Tryz.underlying50 hi hz0 hz1 hz2 rfl (by decide) _ n _ rfl (OWb.out.alloc _) ⟨wb.heap.size, 0, none⟩ 1 1 [.string (TY)] rfl rfl (cell_one_new _ _ _) (fun x hx => by simp at hx; subst hx; rfl) (by unfold maxLen; omega) (by omega) (by have := HBb.out.size; simp; omega) ?_; intro v' wc hown' hgrow hnil; obtain ⟨Tc, cc, rfl⟩ := own_shape hown'; have OWc := Lib.hid hown'; have HBc := Lib.hid ((HBb.out.alloc HBb.out.size (.cells #[.string (TY)] 9)).grown hgrow (by have := HBb.out.size; simp; omega) (fun q hq => (OWb.out.lt q hq).1)); have HQc := Lib.hid ((HQb.out.alloc (.cells #[.string (TY)] 9)).off (Keeps.row hgrow) (ownOff (OWb.out.alloc (.cells #[.string (TY)] 9))) (by decide)); clear hown' hgrow hnil)
        )
        go_roundw
        case rel => exact ⟨k + 1, n + 1, Tc, cc, by omega, by go_num, rfl, by omega, Lib.hid (by rw [HSt.out]; exact OWc.out), HBc, HQc⟩
        case measure => simp [intOf]; omega
      obtain rfl : NP = k := by omega
      have ho := OWr.out
      rw [List.take_of_length_le (by have := HNP.out; omega)] at ho
      have hnl : n = (ps.map protoT).length := by
        have := ho.1
        simp [strCells, strs] at this
        rw [List.length_map]
        omega
      have hjn := join_own (L := ps.map protoT) 44 (by rw [← hnl]; exact ho) (by rw [List.length_map]; have := HNP.out; omega) (by have := join_small ps (by have := HNP.out; omega); omega)
      have HJn := Lib.hid hjn
      clear ho hnl hjn OWr hlt hk
      go_upto_region 10 with (go_at_call 62; (with_reducible refine HJn.out.mono ?_); rintro r wj ⟨rfl, dj⟩)
      have HBs := Lib.hid (after HBr.out dj)
      have HQs := Lib.hid (HQr.out.below dj HQr.out.lt)
      clear HBr HQr dj HJn Hb1 HQ
      go_upto_region 11 with fail
      have o5 := World.ownsRow_lit (e := 9) (size := 1) (base := w.heap.size) wj #[.string ⟨#[97, 99, 99, 101, 112, 116]⟩, .string (⟨(Lib.join (ps.map protoT) [44]).toArray⟩), .string ⟨#[102, 114, 111, 109]⟩] 3 HBs.out.size (by unfold maxLen; omega) rfl
      have b5 := boxed wj (.cells #[.string ⟨#[97, 99, 99, 101, 112, 116]⟩, .string (⟨(Lib.join (ps.map protoT) [44]).toArray⟩), .string ⟨#[102, 114, 111, 109]⟩] 9)
      have OW5 : RowKit.Hid ((wj.alloc (.cells #[.string ⟨#[97, 99, 99, 101, 112, 116]⟩, .string (⟨(Lib.join (ps.map protoT) [44]).toArray⟩), .string ⟨#[102, 114, 111, 109]⟩] 9)).ownsRow w.heap.size 9 1 (.slice (some ⟨wj.heap.size, 0, none⟩) 3 3) 3 (strCells (strs ([W_accept.data.toList, BY, W_from.data.toList] ++ (src.take 0).map selT)))) := Lib.hid (by
        have e : strCells (strs ([W_accept.data.toList, BY, W_from.data.toList] ++ (src.take 0).map selT)) = [.string ⟨#[97, 99, 99, 101, 112, 116]⟩, .string (⟨(Lib.join (ps.map protoT) [44]).toArray⟩), .string ⟨#[102, 114, 111, 109]⟩] := by
          rw [HBY.out, HBye.out]
          rfl
        rw [e]
        exact o5)
      have HB5 := Lib.hid (after HBs.out b5)
      have HQ5 := Lib.hid (HQs.out.below b5 HQs.out.lt)
      clear o5 b5 HBs HQs
      generalize wj.alloc (.cells #[.string ⟨#[97, 99, 99, 101, 112, 116]⟩, .string (⟨(Lib.join (ps.map protoT) [44]).toArray⟩), .string ⟨#[102, 114, 111, 109]⟩] 9) = w5 at OW5 HB5 HQ5 ⊢
      generalize wj.heap.size = g5 at OW5 ⊢
      have a1 := HQ5.out.cell 1
      simp at a1
      go_wp2_with fail
      clear a1
      go_loopw [7, 39] (fun v7 v39 wr => ∃ (k n : Nat) (T : Option Addr) (ct : Nat), k ≤ NS ∧ v39 = .int .i64 (k : Int) ∧ v7 = .slice T n ct ∧ n ≤ 3 + k ∧ RowKit.Hid (wr.ownsRow w.heap.size 9 1 (.slice T n ct) n (strCells (strs ([W_accept.data.toList, BY, W_from.data.toList] ++ (src.take k).map selT)))) ∧ RowKit.Hid (Below w.heap.size w wr) ∧ RowKit.Hid (Blk wr Q 61 #[.slice Ap NP cp, .slice As NS cs, .slice Ad ND cd, .slice Ao NO co])) (fun _ v39 _ => NS - (intOf v39).toNat)
      case atStart => exact ⟨0, _, _, _, Nat.zero_le _, rfl, rfl, by omega, OW5, HB5, HQ5⟩
      case round =>
        obtain ⟨k, n, T, ct, hk, rfl, rfl, hn, OWr, HBr, HQr⟩ := hrel
        by_cases hlt : k < NS
        case pos =>
          have hkl : k < src.length := by have := HNS.out; omega
          obtain ⟨q, o, rfl, hc⟩ := HXs.out.cell HBr.out (by omega)
          have hXl : src[k]? = some src[k] := List.getElem?_eq_getElem hkl
          have htk := List.take_succ_eq_append_getElem hkl
          have hXf := HS.out.fit.src _ (List.getElem_mem hkl)
          generalize src[k] = Y at hXl htk hXf
          obtain ⟨e0, e1, e2, e3, e4, e5⟩ := selCells_at src k Y hXl
          have d0 := hc _ _ e0
          have d1 := hc _ _ e1
          have d2 := hc _ _ e2
          have d3 := hc _ _ e3
          have d4 := hc _ _ e4
          have d5 := hc _ _ e5
          rw [← Nat.add_assoc] at d1 d2 d3 d4 d5
          have htext := fun u (hu : Below w.heap.size w u) => selText_any (HEnv.out.below hu) Y hXf.ok (by have := hXf.name; omega)
          have hst : strCells (strs ([W_accept.data.toList, BY, W_from.data.toList] ++ (src.take (k + 1)).map selT)) = strCells (strs ([W_accept.data.toList, BY, W_from.data.toList] ++ (src.take k).map selT)) ++ [.string (selTB Y)] := by
            rw [htk, List.map_append, ← List.append_assoc, strs_append _ (List.map selT [Y])]
            rfl
          obtain ⟨y1, y2, ⟨⟨y3, y4, y5⟩, y6⟩⟩ := Y
          generalize selTB ⟨y1, y2, ⟨⟨y3, y4, y5⟩, y6⟩⟩ = TY at htext hst
          simp only at d0 d1 d2 d3 d4 d5 htext
          have HText := Lib.hid htext
          have HSt := Lib.hid hst
          clear htk hXl hXf e0 e1 e2 e3 e4 e5 htext hst hc hkl
          go_upto_region 14 with fail
          have M1 := Lib.hid (Blk.new wr 66 #[.int .u8 (y1 : Int), .string y2, .bool y3, .int .u64 (y4 : Int), .int .u64 (y5 : Int), .int .u8 (y6 : Int)])
          have q1 := boxed wr (.cells #[.int .u8 (y1 : Int), .string y2, .bool y3, .int .u64 (y4 : Int), .int .u64 (y5 : Int), .int .u8 (y6 : Int)] 66)
          have OWa := Lib.hid (own_below OWr.out q1)
          have HBa := Lib.hid (after HBr.out q1)
          have HQa := Lib.hid (HQr.out.below q1 HQr.out.lt)
          generalize wr.alloc (.cells #[.int .u8 (y1 : Int), .string y2, .bool y3, .int .u64 (y4 : Int), .int .u64 (y5 : Int), .int .u8 (y6 : Int)] 66) = wa at M1 q1 OWa HBa HQa ⊢
          generalize wr.heap.size = M at M1 ⊢
          clear q1 OWr HBr HQr d0 d1 d2 d3 d4 d5
          have m0 := M1.out.cell 0
          have m1 := M1.out.cell 1
          have m2 := M1.out.cell 2
          have m3 := M1.out.cell 3
          have m4 := M1.out.cell 4
          have m5 := M1.out.cell 5
          simp at m0 m1 m2 m3 m4 m5
          go_wp2_with (first
            | (go_at_call 100; (with_reducible refine (HText.out _ HBa.out).mono ?_); rintro r wb ⟨rfl, db⟩; have OWb := Lib.hid (own_below OWa.out db); have HBb := Lib.hid (after HBa.out db); have HQb := Lib.hid (HQa.out.below db HQa.out.lt))
            | (at_builtin; refine wpList_append_own _ rfl _ _ 50 rfl w.heap.size 9 i0 (.string ByteArray.empty) 1 16 Tryz.underlying50 hi hz0 hz1 hz2 rfl (by decide) _ n _ rfl (OWb.out.alloc _) ⟨wb.heap.size, 0, none⟩ 1 1 [.string (TY)] rfl rfl (cell_one_new _ _ _) (fun x hx => by simp at hx; subst hx; rfl) (by unfold maxLen; omega) (by omega) (by have := HBb.out.size; simp; omega) ?_; intro v' wc hown' hgrow hnil; obtain ⟨Tc, cc, rfl⟩ := own_shape hown'; have OWc := Lib.hid hown'; have HBc := Lib.hid ((HBb.out.alloc HBb.out.size (.cells #[.string (TY)] 9)).grown hgrow (by have := HBb.out.size; simp; omega) (fun q hq => (OWb.out.lt q hq).1)); have HQc := Lib.hid ((HQb.out.alloc (.cells #[.string (TY)] 9)).off (Keeps.row hgrow) (ownOff (OWb.out.alloc (.cells #[.string (TY)] 9))) (by decide)); clear hown' hgrow hnil)
          )
          go_roundw
          case rel => exact ⟨k + 1, n + 1, Tc, cc, by omega, by go_num, rfl, by omega, Lib.hid (by rw [HSt.out]; exact OWc.out), HBc, HQc⟩
          case measure => simp [intOf]; omega
        obtain rfl : NS = k := by omega
        clear OW5 HB5 HQ5
        have OWr2 : RowKit.Hid (wr.ownsRow w.heap.size 9 1 (.slice T n ct) n (strCells (strs ([W_accept.data.toList, BY, W_from.data.toList] ++ src.map selT)))) := Lib.hid (by have := OWr.out; rwa [List.take_of_length_le (by have := HNS.out; omega)] at this)
        clear OWr
        obtain ⟨wo, rfl⟩ : ∃ wo : World, wo = wr := ⟨_, rfl⟩
        go_upto_region 17 with (at_builtin; refine wpList_append_own _ rfl _ _ 50 rfl w.heap.size 9 i0 (.string ByteArray.empty) 1 16 Tryz.underlying50 hi hz0 hz1 hz2 rfl (by decide) _ n _ rfl (OWr2.out.alloc _) ⟨wo.heap.size, 0, none⟩ 1 1 [.string (⟨#[116, 111]⟩)] rfl rfl (cell_one_new _ _ _) (fun x hx => by simp at hx; subst hx; rfl) (by unfold maxLen; omega) (by omega) (by have := HBr.out.size; simp; omega) ?_; intro v' w6 hown' hgrow hnil; obtain ⟨T6, c6, rfl⟩ := own_shape hown'; have OW6 := Lib.hid hown'; have HB6 := Lib.hid ((HBr.out.alloc HBr.out.size (.cells #[.string (⟨#[116, 111]⟩)] 9)).grown hgrow (by have := HBr.out.size; simp; omega) (fun q hq => (OWr2.out.lt q hq).1)); have HQ6 := Lib.hid ((HQr.out.alloc (.cells #[.string (⟨#[116, 111]⟩)] 9)).off (Keeps.row hgrow) (ownOff (OWr2.out.alloc (.cells #[.string (⟨#[116, 111]⟩)] 9))) (by decide)); clear hown' hgrow hnil)
        have OW6' : RowKit.Hid (w6.ownsRow w.heap.size 9 1 (.slice T6 (n + 1) c6) (n + 1) (strCells (strs (([W_accept.data.toList, BY, W_from.data.toList] ++ src.map selT ++ [W_to.data.toList]) ++ (dst.take 0).map selT)))) := Lib.hid (by
          have := OW6.out
          rw [List.take_zero, List.map_nil, List.append_nil, strs_append _ [W_to.data.toList]]
          exact this)
        clear OW6 OWr2 HBr HQr
        have hn6 : n + 1 ≤ 68 := by omega
        have a2 := HQ6.out.cell 2
        simp at a2
        go_wp2_with fail
        clear a2
        go_loopw [7, 55] (fun v7 v39 wr => ∃ (k n : Nat) (T : Option Addr) (ct : Nat), k ≤ ND ∧ v39 = .int .i64 (k : Int) ∧ v7 = .slice T n ct ∧ n ≤ 68 + k ∧ RowKit.Hid (wr.ownsRow w.heap.size 9 1 (.slice T n ct) n (strCells (strs (([W_accept.data.toList, BY, W_from.data.toList] ++ src.map selT ++ [W_to.data.toList]) ++ (dst.take k).map selT)))) ∧ RowKit.Hid (Below w.heap.size w wr) ∧ RowKit.Hid (Blk wr Q 61 #[.slice Ap NP cp, .slice As NS cs, .slice Ad ND cd, .slice Ao NO co])) (fun _ v39 _ => ND - (intOf v39).toNat)
        case atStart => exact ⟨0, _, _, _, Nat.zero_le _, rfl, rfl, by omega, OW6', HB6, HQ6⟩
        case round =>
          obtain ⟨k, n, T, ct, hk, rfl, rfl, hn, OWr, HBr, HQr⟩ := hrel
          by_cases hlt : k < ND
          case pos =>
            have hkl : k < dst.length := by have := HND.out; omega
            obtain ⟨q, o, rfl, hc⟩ := HXd.out.cell HBr.out (by omega)
            have hXl : dst[k]? = some dst[k] := List.getElem?_eq_getElem hkl
            have htk := List.take_succ_eq_append_getElem hkl
            have hXf := HS.out.fit.dst _ (List.getElem_mem hkl)
            generalize dst[k] = Y at hXl htk hXf
            obtain ⟨e0, e1, e2, e3, e4, e5⟩ := selCells_at dst k Y hXl
            have d0 := hc _ _ e0
            have d1 := hc _ _ e1
            have d2 := hc _ _ e2
            have d3 := hc _ _ e3
            have d4 := hc _ _ e4
            have d5 := hc _ _ e5
            rw [← Nat.add_assoc] at d1 d2 d3 d4 d5
            have htext := fun u (hu : Below w.heap.size w u) => selText_any (HEnv.out.below hu) Y hXf.ok (by have := hXf.name; omega)
            have hst : strCells (strs (([W_accept.data.toList, BY, W_from.data.toList] ++ src.map selT ++ [W_to.data.toList]) ++ (dst.take (k + 1)).map selT)) = strCells (strs (([W_accept.data.toList, BY, W_from.data.toList] ++ src.map selT ++ [W_to.data.toList]) ++ (dst.take k).map selT)) ++ [.string (selTB Y)] := by
              rw [htk, List.map_append, ← List.append_assoc, strs_append _ (List.map selT [Y])]
              rfl
            obtain ⟨y1, y2, ⟨⟨y3, y4, y5⟩, y6⟩⟩ := Y
            generalize selTB ⟨y1, y2, ⟨⟨y3, y4, y5⟩, y6⟩⟩ = TY at htext hst
            simp only at d0 d1 d2 d3 d4 d5 htext
            have HText := Lib.hid htext
            have HSt := Lib.hid hst
            clear htk hXl hXf e0 e1 e2 e3 e4 e5 htext hst hc hkl
            go_upto_region 20 with fail
            have M1 := Lib.hid (Blk.new wr 66 #[.int .u8 (y1 : Int), .string y2, .bool y3, .int .u64 (y4 : Int), .int .u64 (y5 : Int), .int .u8 (y6 : Int)])
            have q1 := boxed wr (.cells #[.int .u8 (y1 : Int), .string y2, .bool y3, .int .u64 (y4 : Int), .int .u64 (y5 : Int), .int .u8 (y6 : Int)] 66)
            have OWa := Lib.hid (own_below OWr.out q1)
            have HBa := Lib.hid (after HBr.out q1)
            have HQa := Lib.hid (HQr.out.below q1 HQr.out.lt)
            generalize wr.alloc (.cells #[.int .u8 (y1 : Int), .string y2, .bool y3, .int .u64 (y4 : Int), .int .u64 (y5 : Int), .int .u8 (y6 : Int)] 66) = wa at M1 q1 OWa HBa HQa ⊢
            generalize wr.heap.size = M at M1 ⊢
            clear q1 OWr HBr HQr d0 d1 d2 d3 d4 d5
            have m0 := M1.out.cell 0
            have m1 := M1.out.cell 1
            have m2 := M1.out.cell 2
            have m3 := M1.out.cell 3
            have m4 := M1.out.cell 4
            have m5 := M1.out.cell 5
            simp at m0 m1 m2 m3 m4 m5
            go_wp2_with (first
              | (go_at_call 100; (with_reducible refine (HText.out _ HBa.out).mono ?_); rintro r wb ⟨rfl, db⟩; have OWb := Lib.hid (own_below OWa.out db); have HBb := Lib.hid (after HBa.out db); have HQb := Lib.hid (HQa.out.below db HQa.out.lt))
              | (at_builtin; refine wpList_append_own _ rfl _ _ 50 rfl w.heap.size 9 i0 (.string ByteArray.empty) 1 16 Tryz.underlying50 hi hz0 hz1 hz2 rfl (by decide) _ n _ rfl (OWb.out.alloc _) ⟨wb.heap.size, 0, none⟩ 1 1 [.string (TY)] rfl rfl (cell_one_new _ _ _) (fun x hx => by simp at hx; subst hx; rfl) (by unfold maxLen; omega) (by omega) (by have := HBb.out.size; simp; omega) ?_; intro v' wc hown' hgrow hnil; obtain ⟨Tc, cc, rfl⟩ := own_shape hown'; have OWc := Lib.hid hown'; have HBc := Lib.hid ((HBb.out.alloc HBb.out.size (.cells #[.string (TY)] 9)).grown hgrow (by have := HBb.out.size; simp; omega) (fun q hq => (OWb.out.lt q hq).1)); have HQc := Lib.hid ((HQb.out.alloc (.cells #[.string (TY)] 9)).off (Keeps.row hgrow) (ownOff (OWb.out.alloc (.cells #[.string (TY)] 9))) (by decide)); clear hown' hgrow hnil)
            )
            go_roundw
            case rel => exact ⟨k + 1, n + 1, Tc, cc, by omega, by go_num, rfl, by omega, Lib.hid (by rw [HSt.out]; exact OWc.out), HBc, HQc⟩
            case measure => simp [intOf]; omega
          obtain rfl : ND = k := by omega
          clear OW6' HB6 HQ6
          have OWr3 : RowKit.Hid (wr.ownsRow w.heap.size 9 1 (.slice T n ct) n (strCells (strs ((([W_accept.data.toList, BY, W_from.data.toList] ++ src.map selT ++ [W_to.data.toList]) ++ dst.map selT) ++ pT (po.take 0))))) := Lib.hid (by have := OWr.out; rw [List.take_of_length_le (by have := HND.out; omega)] at this; rw [show pT (po.take 0) = [] from rfl, List.append_nil]; exact this)
          clear OWr
          obtain ⟨wo2, rfl⟩ : ∃ wo : World, wo = wr := ⟨_, rfl⟩
          have hn7 : n ≤ 140 := by omega
          have a3 := HQr.out.cell 3
          simp at a3
          have HBq := HBr
          have HQq := HQr
          clear HBr HQr
          go_wp2_with fail
          clear a3
          go_loopw [7, 68] (fun v7 v68 wr => ∃ (k n : Nat) (T : Option Addr) (ct : Nat), k ≤ NO ∧ v68 = .int .i64 (k : Int) ∧ v7 = .slice T n ct ∧ n ≤ 140 + 2 * k ∧ RowKit.Hid (wr.ownsRow w.heap.size 9 1 (.slice T n ct) n (strCells (strs ((([W_accept.data.toList, BY, W_from.data.toList] ++ src.map selT ++ [W_to.data.toList]) ++ dst.map selT) ++ pT (po.take k))))) ∧ RowKit.Hid (Below w.heap.size w wr) ∧ RowKit.Hid (Blk wr Q 61 #[.slice Ap NP cp, .slice As NS cs, .slice Ad ND cd, .slice Ao NO co])) (fun _ v68 _ => NO - (intOf v68).toNat)
          case atStart => exact ⟨0, _, _, _, Nat.zero_le _, rfl, rfl, by omega, OWr3, HBq, HQq⟩
          case round =>
            clear OWr3 HBq HQq
            obtain ⟨k, n, T, ct, hk, rfl, rfl, hn, OWr, HBr, HQr⟩ := hrel
            by_cases hlt : k < NO
            case pos =>
              have hkl : k < po.length := by have := HNO.out; omega
              obtain ⟨q, o, rfl, hc⟩ := HXo.out.cell HBr.out (by omega)
              have hXl : po[k]? = some po[k] := List.getElem?_eq_getElem hkl
              have htk := List.take_succ_eq_append_getElem hkl
              have hXf := HS.out.fit.ob _ (List.getElem_mem hkl)
              generalize po[k] = Y at hXl htk hXf
              obtain ⟨e0, e1⟩ := portCells_at po k Y hXl
              have d0 := hc _ _ e0
              have d1 := hc _ _ e1
              rw [← Nat.add_assoc] at d1
              obtain ⟨y1, y2⟩ := Y
              simp only at d0 d1 hXf
              have hi1 := fun u (hu : Below w.heap.size w u) => itoa16 (HEnv.out.below hu) y1 hXf.1
              have hi2 := fun u (hu : Below w.heap.size w u) => itoa16 (HEnv.out.below hu) y2 hXf.2
              have hs1 : (⟨(Lib.decDigits y1).toArray⟩ : ByteArray).size ≤ 5 := dec5 hXf.1
              have hs2 : (⟨(Lib.decDigits y2).toArray⟩ : ByteArray).size ≤ 5 := dec5 hXf.2
              have hpt : ofL (portT (y1, y2)) = if y2 ≠ y1 then ⟨(Lib.decDigits y1).toArray⟩ ++ (⟨#[45]⟩ ++ ⟨(Lib.decDigits y2).toArray⟩) else ⟨(Lib.decDigits y1).toArray⟩ := by
                unfold portT
                simp only
                split
                · apply ByteArray.ext; simp [ofL]
                · simp [ofL]
              generalize (⟨(Lib.decDigits y1).toArray⟩ : ByteArray) = D1 at hi1 hs1 hpt
              generalize (⟨(Lib.decDigits y2).toArray⟩ : ByteArray) = D2 at hi2 hs2 hpt
              have w1' : IntKind.i64.wrap (y1 : Int) = (y1 : Int) := by rw [IntKind.wrap_i64]; omega
              have w2' : IntKind.i64.wrap (y2 : Int) = (y2 : Int) := by rw [IntKind.wrap_i64]; omega
              have z1 : ¬ 9223372036854775807 < 1 + D2.size := by omega
              have z2 : ¬ 9223372036854775807 < D1.size + (1 + D2.size) := by omega
              have hstep : pT (po.take (k + 1)) = (if k = 0 then [W_ports.data.toList] else pT (po.take k)) ++ [portT (y1, y2)] := by
                rw [htk]
                by_cases hk0 : k = 0
                · subst hk0; rfl
                · rw [if_neg hk0]
                  unfold pT
                  rw [if_neg (by simp), if_neg (by intro e; have h0 := congrArg List.length e; rw [List.length_take, Nat.min_eq_left (by omega)] at h0; exact hk0 h0), List.map_append]
                  rfl
              have HI1 := Lib.hid hi1
              have HI2 := Lib.hid hi2
              have HPt := Lib.hid hpt
              have HStep := Lib.hid hstep
              clear hi1 hi2 hpt hstep htk hXl hXf e0 e1 hc hkl
              go_upto_region 25 with fail
              have M1 := Lib.hid (Blk.new wr 68 #[.int .u16 (y1 : Int), .int .u16 (y2 : Int)])
              have q1 := boxed wr (.cells #[.int .u16 (y1 : Int), .int .u16 (y2 : Int)] 68)
              have OWa := Lib.hid (own_below OWr.out q1)
              have HBa := Lib.hid (after HBr.out q1)
              have HQa := Lib.hid (HQr.out.below q1 HQr.out.lt)
              generalize wr.alloc (.cells #[.int .u16 (y1 : Int), .int .u16 (y2 : Int)] 68) = wa at M1 q1 OWa HBa HQa ⊢
              generalize wr.heap.size = M at M1 ⊢
              clear q1 OWr HBr HQr d0 d1
              by_cases hk0 : k = 0
              case pos =>
                have j0 : ((k : Int) == 0) = true := by simp; omega
                have hpk : pT (po.take k) = [] := by rw [hk0]; rfl
                have HPk := Lib.hid hpk
                have HK0 := Lib.hid hk0
                clear hpk hk0
                go_upto_region 27 with (at_builtin; refine wpList_append_own _ rfl _ _ 50 rfl w.heap.size 9 i0 (.string ByteArray.empty) 1 16 Tryz.underlying50 hi hz0 hz1 hz2 rfl (by decide) _ n _ rfl (OWa.out.alloc _) ⟨wa.heap.size, 0, none⟩ 1 1 [.string (⟨#[112, 111, 114, 116, 115]⟩)] rfl rfl (cell_one_new _ _ _) (fun x hx => by simp at hx; subst hx; rfl) (by unfold maxLen; omega) (by omega) (by have := HBa.out.size; simp; omega) ?_; intro v' wp hown' hgrow hnil; obtain ⟨Tp, cp', rfl⟩ := own_shape hown'; have OWp0 := Lib.hid hown'; have HBp := Lib.hid ((HBa.out.alloc HBa.out.size (.cells #[.string (⟨#[112, 111, 114, 116, 115]⟩)] 9)).grown hgrow (by have := HBa.out.size; simp; omega) (fun q hq => (OWa.out.lt q hq).1)); have HQp := Lib.hid ((HQa.out.alloc (.cells #[.string (⟨#[112, 111, 114, 116, 115]⟩)] 9)).off (Keeps.row hgrow) (ownOff (OWa.out.alloc (.cells #[.string (⟨#[112, 111, 114, 116, 115]⟩)] 9))) (by decide)); have MBp := Lib.hid ((M1.out.alloc (.cells #[.string (⟨#[112, 111, 114, 116, 115]⟩)] 9)).off (Keeps.row hgrow) (ownOff (OWa.out.alloc (.cells #[.string (⟨#[112, 111, 114, 116, 115]⟩)] 9))) (by decide)); clear hown' hgrow hnil)
                have OWp : RowKit.Hid (wp.ownsRow w.heap.size 9 1 (.slice Tp (n + 1) cp') (n + 1) (strCells (strs ((([W_accept.data.toList, BY, W_from.data.toList] ++ src.map selT ++ [W_to.data.toList]) ++ dst.map selT) ++ [W_ports.data.toList])))) := Lib.hid (by
                  have := OWp0.out
                  rw [HPk.out, List.append_nil] at this
                  rw [strs_append _ [W_ports.data.toList]]
                  exact this)
                clear OWp0
                obtain ⟨n2, hn2⟩ : ∃ m, m = n + 1 := ⟨_, rfl⟩
                rw [← hn2] at OWp ⊢
                have hn3 : n2 ≤ 141 + 2 * k := by omega
                clear hn2
                have m0 := MBp.out.cell 0
                simp at m0
                go_upto_region 28 with (go_at_call 87; (with_reducible refine (HI1.out _ HBp.out).mono ?_); rintro r wi ⟨rfl, di⟩)
                have OWi := Lib.hid (own_below OWp.out di)
                have HBi := Lib.hid (after HBp.out di)
                have HQi := Lib.hid (HQp.out.below di HQp.out.lt)
                have MBi := Lib.hid (MBp.out.below di MBp.out.lt)
                clear OWp HBp HQp MBp di m0
                have m0 := MBi.out.cell 0
                have m1 := MBi.out.cell 1
                simp at m0 m1
                by_cases hyy : y2 = y1
                case pos =>
                  have e2 : ((y2 : Int) == (y1 : Int)) = true := by simp; omega
                  have hO : ofL (portT (y1, y2)) = D1 := by rw [HPt.out, if_neg (fun h => h hyy)]
                  have HO := Lib.hid hO
                  clear hO hyy
                  go_wp2_with (at_builtin; refine wpList_append_own _ rfl _ _ 50 rfl w.heap.size 9 i0 (.string ByteArray.empty) 1 16 Tryz.underlying50 hi hz0 hz1 hz2 rfl (by decide) _ n2 _ rfl (OWi.out.alloc _) ⟨wi.heap.size, 0, none⟩ 1 1 [.string (D1)] rfl rfl (cell_one_new _ _ _) (fun x hx => by simp at hx; subst hx; rfl) (by unfold maxLen; omega) (by omega) (by have := HBi.out.size; simp; omega) ?_; intro v' wc hown' hgrow hnil; obtain ⟨Tc, cc, rfl⟩ := own_shape hown'; have OWc := Lib.hid hown'; have HBc := Lib.hid ((HBi.out.alloc HBi.out.size (.cells #[.string (D1)] 9)).grown hgrow (by have := HBi.out.size; simp; omega) (fun q hq => (OWi.out.lt q hq).1)); have HQc := Lib.hid ((HQi.out.alloc (.cells #[.string (D1)] 9)).off (Keeps.row hgrow) (ownOff (OWi.out.alloc (.cells #[.string (D1)] 9))) (by decide)); clear hown' hgrow hnil)
                  go_roundw
                  case rel =>
                    skip
                    exact ⟨k + 1, n2 + 1, Tc, cc, by omega, by go_num, rfl, by omega, Lib.hid (by rw [HStep.out, ← List.append_assoc, strs_append _ [portT (y1, y2)], strs_one, HO.out, if_pos HK0.out]; exact OWc.out), HBc, HQc⟩
                  case measure => simp [intOf]; omega
                have e2 : ((y2 : Int) == (y1 : Int)) = false := by simp; omega
                have hO : ofL (portT (y1, y2)) = D1 ++ (⟨#[45]⟩ ++ D2) := by rw [HPt.out, if_pos hyy]
                have HO := Lib.hid hO
                clear hO hyy
                go_wp2_with (first
                  | (go_at_call 87; (with_reducible refine (HI2.out _ HBi.out).mono ?_); rintro r wj ⟨rfl, dj⟩; have OWj := Lib.hid (own_below OWi.out dj); have HBj := Lib.hid (after HBi.out dj); have HQj := Lib.hid (HQi.out.below dj HQi.out.lt))
                  | (at_builtin; refine wpList_append_own _ rfl _ _ 50 rfl w.heap.size 9 i0 (.string ByteArray.empty) 1 16 Tryz.underlying50 hi hz0 hz1 hz2 rfl (by decide) _ n2 _ rfl (OWj.out.alloc _) ⟨wj.heap.size, 0, none⟩ 1 1 [.string (D1 ++ (⟨#[45]⟩ ++ D2))] rfl rfl (cell_one_new _ _ _) (fun x hx => by simp at hx; subst hx; rfl) (by unfold maxLen; omega) (by omega) (by have := HBj.out.size; simp; omega) ?_; intro v' wc hown' hgrow hnil; obtain ⟨Tc, cc, rfl⟩ := own_shape hown'; have OWc := Lib.hid hown'; have HBc := Lib.hid ((HBj.out.alloc HBj.out.size (.cells #[.string (D1 ++ (⟨#[45]⟩ ++ D2))] 9)).grown hgrow (by have := HBj.out.size; simp; omega) (fun q hq => (OWj.out.lt q hq).1)); have HQc := Lib.hid ((HQj.out.alloc (.cells #[.string (D1 ++ (⟨#[45]⟩ ++ D2))] 9)).off (Keeps.row hgrow) (ownOff (OWj.out.alloc (.cells #[.string (D1 ++ (⟨#[45]⟩ ++ D2))] 9))) (by decide)); clear hown' hgrow hnil)
                  )
                go_roundw
                case rel =>
                  skip
                  exact ⟨k + 1, n2 + 1, Tc, cc, by omega, by go_num, rfl, by omega, Lib.hid (by rw [HStep.out, ← List.append_assoc, strs_append _ [portT (y1, y2)], strs_one, HO.out, if_pos HK0.out]; exact OWc.out), HBc, HQc⟩
                case measure => simp [intOf]; omega
              have j0 : ((k : Int) == 0) = false := by simp; omega
              have HK0 := Lib.hid hk0
              have OWp := OWa
              have HBp := HBa
              have HQp := HQa
              have MBp := M1
              clear OWa HBa HQa M1 hk0
              have m0 := MBp.out.cell 0
              simp at m0
              go_upto_region 28 with (go_at_call 87; (with_reducible refine (HI1.out _ HBp.out).mono ?_); rintro r wi ⟨rfl, di⟩)
              have OWi := Lib.hid (own_below OWp.out di)
              have HBi := Lib.hid (after HBp.out di)
              have HQi := Lib.hid (HQp.out.below di HQp.out.lt)
              have MBi := Lib.hid (MBp.out.below di MBp.out.lt)
              clear OWp HBp HQp MBp di m0
              have m0 := MBi.out.cell 0
              have m1 := MBi.out.cell 1
              simp at m0 m1
              by_cases hyy : y2 = y1
              case pos =>
                have e2 : ((y2 : Int) == (y1 : Int)) = true := by simp; omega
                have hO : ofL (portT (y1, y2)) = D1 := by rw [HPt.out, if_neg (fun h => h hyy)]
                have HO := Lib.hid hO
                clear hO hyy
                go_wp2_with (at_builtin; refine wpList_append_own _ rfl _ _ 50 rfl w.heap.size 9 i0 (.string ByteArray.empty) 1 16 Tryz.underlying50 hi hz0 hz1 hz2 rfl (by decide) _ n _ rfl (OWi.out.alloc _) ⟨wi.heap.size, 0, none⟩ 1 1 [.string (D1)] rfl rfl (cell_one_new _ _ _) (fun x hx => by simp at hx; subst hx; rfl) (by unfold maxLen; omega) (by omega) (by have := HBi.out.size; simp; omega) ?_; intro v' wc hown' hgrow hnil; obtain ⟨Tc, cc, rfl⟩ := own_shape hown'; have OWc := Lib.hid hown'; have HBc := Lib.hid ((HBi.out.alloc HBi.out.size (.cells #[.string (D1)] 9)).grown hgrow (by have := HBi.out.size; simp; omega) (fun q hq => (OWi.out.lt q hq).1)); have HQc := Lib.hid ((HQi.out.alloc (.cells #[.string (D1)] 9)).off (Keeps.row hgrow) (ownOff (OWi.out.alloc (.cells #[.string (D1)] 9))) (by decide)); clear hown' hgrow hnil)
                go_roundw
                case rel =>
                  skip
                  exact ⟨k + 1, n + 1, Tc, cc, by omega, by go_num, rfl, by omega, Lib.hid (by rw [HStep.out, ← List.append_assoc, strs_append _ [portT (y1, y2)], strs_one, HO.out, if_neg HK0.out]; exact OWc.out), HBc, HQc⟩
                case measure => simp [intOf]; omega
              have e2 : ((y2 : Int) == (y1 : Int)) = false := by simp; omega
              have hO : ofL (portT (y1, y2)) = D1 ++ (⟨#[45]⟩ ++ D2) := by rw [HPt.out, if_pos hyy]
              have HO := Lib.hid hO
              clear hO hyy
              go_wp2_with (first
                | (go_at_call 87; (with_reducible refine (HI2.out _ HBi.out).mono ?_); rintro r wj ⟨rfl, dj⟩; have OWj := Lib.hid (own_below OWi.out dj); have HBj := Lib.hid (after HBi.out dj); have HQj := Lib.hid (HQi.out.below dj HQi.out.lt))
                | (at_builtin; refine wpList_append_own _ rfl _ _ 50 rfl w.heap.size 9 i0 (.string ByteArray.empty) 1 16 Tryz.underlying50 hi hz0 hz1 hz2 rfl (by decide) _ n _ rfl (OWj.out.alloc _) ⟨wj.heap.size, 0, none⟩ 1 1 [.string (D1 ++ (⟨#[45]⟩ ++ D2))] rfl rfl (cell_one_new _ _ _) (fun x hx => by simp at hx; subst hx; rfl) (by unfold maxLen; omega) (by omega) (by have := HBj.out.size; simp; omega) ?_; intro v' wc hown' hgrow hnil; obtain ⟨Tc, cc, rfl⟩ := own_shape hown'; have OWc := Lib.hid hown'; have HBc := Lib.hid ((HBj.out.alloc HBj.out.size (.cells #[.string (D1 ++ (⟨#[45]⟩ ++ D2))] 9)).grown hgrow (by have := HBj.out.size; simp; omega) (fun q hq => (OWj.out.lt q hq).1)); have HQc := Lib.hid ((HQj.out.alloc (.cells #[.string (D1 ++ (⟨#[45]⟩ ++ D2))] 9)).off (Keeps.row hgrow) (ownOff (OWj.out.alloc (.cells #[.string (D1 ++ (⟨#[45]⟩ ++ D2))] 9))) (by decide)); clear hown' hgrow hnil)
                )
              go_roundw
              case rel =>
                skip
                exact ⟨k + 1, n + 1, Tc, cc, by omega, by go_num, rfl, by omega, Lib.hid (by rw [HStep.out, ← List.append_assoc, strs_append _ [portT (y1, y2)], strs_one, HO.out, if_neg HK0.out]; exact OWc.out), HBc, HQc⟩
              case measure => simp [intOf]; omega
            have hfin : pT (po.take k) = pT po := by rw [List.take_of_length_le (by have := HNO.out; omega)]
            have hOutL : (strCells (strs OUT)).length = OUT.length := by simp [strCells, strs]
            have ho := OWr.out
            rw [hfin, ← HOut.out] at ho
            have hnl : n = OUT.length := by
              have := ho.1
              rw [hOutL] at this
              omega
            have HNl := Lib.hid hnl
            have HOw := Lib.hid ho
            clear hfin hOutL ho hnl OWr
            go_wp2_with fail
            refine bodyPost_ret (results_tmp rfl _ _ _) rfl ⟨⟨_, rfl, ?_⟩, HBr.out⟩
            rw [← HNl.out]
            exact HOw.out
end Go.Proofs.YthglckoikjfjkaaGreatDoor
