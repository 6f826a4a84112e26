/- Joined out of: RwH RwG RwI. -/
import Derived.Test.YtbiglifngfgffaaGreatDoorLaa
import Derived.Test.YtbiglifngfgffaaGreatDoorLay
import Derived.Test.YtbiglifngfgffaaGreatDoorLao
import Derived.Deep.QuietTactic
import Derived.BigQuiet
import Derived.Test.YtbiglifngfgffaaGreatDoorLax
import Derived.Test.YtbiglifngfgffaaGreatDoorLah
set_option linter.unusedVariables false
set_option linter.unusedSimpArgs false

/- Which policies may be, as the document says (may): the walk. -/
namespace Go.Proofs.YtbiglifngfgffaaGreatDoor
open Go.RowKit
attribute [local go_sem ↓] Go.wp_at_zero Go.wp_at_succ

theorem chk_len {l : List Nat} (h : 3 < l.length) : chk 0 l = false := by
  rw [chk_eq, Bool.eq_false_iff]
  intro e
  rw [Bool.and_eq_true] at e
  have := rising_len l e.2 (fun x hx => List.all_eq_true.1 e.1 x hx)
  omega
theorem hsCells_take : ∀ (l : List Hs) (k : Nat), hsCells (l.take k) = (hsCells l).take (k * 5) := by
  intro l
  induction l with
  | nil => intro k; simp [hsCells]
  | cons x r ih =>
    intro k
    cases k with
    | zero => rw [Nat.zero_mul, List.take_zero, List.take_zero]; rfl
    | succ k =>
      rw [List.take_succ_cons, show (k + 1) * 5 = k * 5 + 1 + 1 + 1 + 1 + 1 by omega]
      show [Value.string x.name, .bool x.net.a.v6, .int .u64 (x.net.a.hi : Int), .int .u64 (x.net.a.lo : Int), .int .u8 (x.net.bits : Int)] ++ hsCells (r.take k) = ([Value.string x.name, .bool x.net.a.v6, .int .u64 (x.net.a.hi : Int), .int .u64 (x.net.a.lo : Int), .int .u8 (x.net.bits : Int)] ++ hsCells r).take (k * 5 + 1 + 1 + 1 + 1 + 1)
      rw [ih]
      rfl
theorem distinct_snoc_hosts {l : List Hs} {k : Nat} {x : Hs} (hx : l.take (k + 1) = l.take k ++ [x]) (h : distinct ((l.take k).map (·.name)) = true) (hn : hasH (l.take k) x.name = false) : distinct ((l.take (k + 1)).map (·.name)) = true := by
  rw [hx, List.map_append]
  exact distinct_snoc h (hasH_not hn)
theorem hasH_mem {l : List Hs} {s : ByteArray} (h : hasH l s = true) : s ∈ l.map (·.name) := by
  unfold hasH at h
  rw [List.any_eq_true] at h
  obtain ⟨x, hx, e⟩ := h
  exact List.mem_map.2 ⟨x, hx, of_decide_eq_true e⟩

set_option maxHeartbeats 32000000 in
set_option maxRecDepth 100000 in
theorem rmay_any {w : World} {V : PoV} {p : Po} (h : PoRd w V p) (hf : PoFit p) (kg : CapOk V.g) (kt : CapOk V.t) (kh : CapOk V.h) :
    Calls Tryz.prog 34 #[.agg #[V.g, V.t, V.h, V.a]] w (Got (.bool (mayP p)) w) := by
  obtain ⟨R, hR⟩ : ∃ r, r = mayP p := ⟨_, rfl⟩
  rw [← hR]
  rw [mayP_eq] at hR
  have hmg := fun u (hu : Below w.heap.size w u) => rnamed_any p.groups (h.g.below hu) kg hf.gl hf.g
  have hmt := fun u (hu : Below w.heap.size w u) => rnamed_any p.tags (h.t.below hu) kt hf.tl hf.t
  have hse := fun u (hu : Below w.heap.size w u) (v : Value) (l : List Sel) => rsels_any (v := v) (h.below hu) hf.gl hf.tl hf.hl l
  have hrh := h.h
  obtain ⟨xa, hxa, hra, hin⟩ := h.a
  obtain ⟨Ag, cg, eg⟩ := h.g.shape
  obtain ⟨At, ct, et⟩ := h.t.shape
  obtain ⟨Ah, ch, eh⟩ := hrh.shape
  obtain ⟨Aa, ca, ea⟩ := hra.shape
  obtain ⟨gv, tv, hv, av⟩ := V
  simp only at eg et eh ea hrh hra hmg hmt hse kh ⊢
  subst eg et eh ea
  obtain ⟨NH, hNH⟩ : ∃ n, n = p.hosts.length := ⟨_, rfl⟩
  obtain ⟨NA, hNA⟩ : ∃ n, n = p.acls.length := ⟨_, rfl⟩
  rw [← hNH] at hrh hR hse kh ⊢
  rw [← hNA] at hra hR hse ⊢
  have hcap : NH ≤ ch := kh _ _ _ rfl
  obtain ⟨G, hG⟩ : ∃ s, s = mayNm p.groups := ⟨_, rfl⟩
  obtain ⟨TT, hT⟩ : ∃ s, s = mayNm p.tags := ⟨_, rfl⟩
  rw [← hG] at hmg hR
  rw [← hT] at hmt hR
  generalize p.groups.length = lg at hmg hse ⊢
  generalize p.tags.length = lt at hmt hse ⊢
  have HMg := Lib.hid hmg
  have HMt := Lib.hid hmt
  have HSe := Lib.hid hse
  have HRh := Lib.hid hrh
  have HRa := Lib.hid hra
  have HXa := Lib.hid hxa
  have HIn := Lib.hid hin
  have HF := Lib.hid hf
  have HNH := Lib.hid hNH
  have HNA := Lib.hid hNA
  have HR := Lib.hid hR
  clear h hmg hmt hse hrh hra hxa hin hf hNH hNA hR kg kt kh hG hT
  have HB := Lib.hid (boxed w (.cells #[.slice Ag lg cg, .slice At lt ct, .slice Ah NH ch, .slice Aa NA ca] 26))
  have HQ := Lib.hid (Blk.new w 26 #[.slice Ag lg cg, .slice At lt ct, .slice Ah NH ch, .slice Aa NA ca])
  go_enter Tryz.func34, Tryz.ntmps34
  go_upto_region 1 with fail
  generalize w.alloc (.cells #[.slice Ag lg cg, .slice At lt ct, .slice Ah NH ch, .slice Aa NA ca] 26) = w1 at HQ HB ⊢
  generalize w.heap.size = Q at HQ ⊢
  have p0 := HQ.out.cell 0
  simp at p0
  have HMg' := Lib.hid (HMg.out _ HB.out)
  clear HMg
  cases G with
  | false =>
    have HRf : RowKit.Hid (R = false) := Lib.hid (by rw [HR.out]; rfl)
    go_wp2_with (go_at_call 64; (with_reducible refine HMg'.out.mono ?_); rintro r w2 ⟨rfl, d2⟩; have HB2 := Lib.hid (after HB.out d2); have Q2 := Lib.hid (HQ.out.below d2 HQ.out.lt); have p1 := Q2.out.cell 1; simp at p1
    )
    go_ret
    exact ⟨by rw [HRf.out]; rfl, HB2.out⟩
  | true =>
  cases TT with
  | false =>
    have HRf : RowKit.Hid (R = false) := Lib.hid (by rw [HR.out]; rfl)
    go_wp2_with (first
      | (go_at_call 64; (with_reducible refine HMg'.out.mono ?_); rintro r w2 ⟨rfl, d2⟩; have HB2 := Lib.hid (after HB.out d2); have Q2 := Lib.hid (HQ.out.below d2 HQ.out.lt); have p1 := Q2.out.cell 1; simp at p1
      )
      | (go_at_call 64; (with_reducible refine (HMt.out _ HB2.out).mono ?_); rintro r w3 ⟨rfl, d3⟩; have HB3 := Lib.hid (after HB2.out d3); have Q3 := Lib.hid (Q2.out.below d3 Q2.out.lt); have p2 := Q3.out.cell 2; have p3 := Q3.out.cell 3; simp at p2 p3
      ))
    go_ret
    exact ⟨by rw [HRf.out]; rfl, HB3.out⟩
  | true =>
  have hR := HR.out
  rw [Bool.true_and, Bool.true_and] at hR
  by_cases h64 : NH ≤ 64
  case neg =>
    have q1 : (64 : Int) < (NH : Int) := by omega
    have HRf : RowKit.Hid (R = false) := Lib.hid (by rw [hR, decide_eq_false h64, Bool.false_and])
    clear h64 hR
    go_wp2_with (first
      | (go_at_call 64; (with_reducible refine HMg'.out.mono ?_); rintro r w2 ⟨rfl, d2⟩; have HB2 := Lib.hid (after HB.out d2); have Q2 := Lib.hid (HQ.out.below d2 HQ.out.lt); have p1 := Q2.out.cell 1; simp at p1
      )
      | (go_at_call 64; (with_reducible refine (HMt.out _ HB2.out).mono ?_); rintro r w3 ⟨rfl, d3⟩; have HB3 := Lib.hid (after HB2.out d3); have Q3 := Lib.hid (Q2.out.below d3 Q2.out.lt); have p2 := Q3.out.cell 2; have p3 := Q3.out.cell 3; simp at p2 p3
      ))
    go_ret
    exact ⟨by rw [HRf.out]; rfl, HB3.out⟩
  have q1 : ¬ (64 : Int) < (NH : Int) := by omega
  rw [decide_eq_true h64, Bool.true_and] at hR
  by_cases ha64 : NA ≤ 64
  case neg =>
    have q2 : (64 : Int) < (NA : Int) := by omega
    have HRf : RowKit.Hid (R = false) := Lib.hid (by rw [hR, decide_eq_false ha64, Bool.false_and])
    clear ha64 h64 hR
    go_wp2_with (first
      | (go_at_call 64; (with_reducible refine HMg'.out.mono ?_); rintro r w2 ⟨rfl, d2⟩; have HB2 := Lib.hid (after HB.out d2); have Q2 := Lib.hid (HQ.out.below d2 HQ.out.lt); have p1 := Q2.out.cell 1; simp at p1
      )
      | (go_at_call 64; (with_reducible refine (HMt.out _ HB2.out).mono ?_); rintro r w3 ⟨rfl, d3⟩; have HB3 := Lib.hid (after HB2.out d3); have Q3 := Lib.hid (Q2.out.below d3 Q2.out.lt); have p2 := Q3.out.cell 2; have p3 := Q3.out.cell 3; simp at p2 p3
      ))
    go_ret
    exact ⟨by rw [HRf.out]; rfl, HB3.out⟩
  have q2 : ¬ (64 : Int) < (NA : Int) := by omega
  rw [decide_eq_true ha64, Bool.true_and] at hR
  have HR2 := Lib.hid hR
  clear hR HR
  go_upto_region 3 with (first
    | (go_at_call 64; (with_reducible refine HMg'.out.mono ?_); rintro r w2 ⟨rfl, d2⟩; have HB2 := Lib.hid (after HB.out d2); have Q2 := Lib.hid (HQ.out.below d2 HQ.out.lt); have p1 := Q2.out.cell 1; simp at p1
    )
    | (go_at_call 64; (with_reducible refine (HMt.out _ HB2.out).mono ?_); rintro r w3 ⟨rfl, d3⟩; have HB3 := Lib.hid (after HB2.out d3); have Q3 := Lib.hid (Q2.out.below d3 Q2.out.lt); have p2 := Q3.out.cell 2; have p3 := Q3.out.cell 3; simp at p2 p3
    ))
  clear d2 d3 HB2 Q2 HQ HB p0 p1 p3 HMg' HMt q1 q2
  go_wp2_with fail
  clear p2
  go_loopw [3] (fun v3 wr => ∃ k : Nat, k ≤ NH ∧ v3 = .int .i64 (k : Int) ∧ RowKit.Hid (Below w.heap.size w wr) ∧ RowKit.Hid (Blk wr Q 26 #[.slice Ag lg cg, .slice At lt ct, .slice Ah NH ch, .slice Aa NA ca]) ∧ RowKit.Hid ((p.hosts.take k).all okHs = true) ∧ RowKit.Hid (distinct ((p.hosts.take k).map (·.name)) = true)) (fun v3 _ => NH - (intOf v3).toNat)
  case atStart => exact ⟨0, Nat.zero_le _, rfl, HB3, Q3, Lib.hid rfl, Lib.hid rfl⟩
  case round =>
    clear HB3 Q3
    obtain ⟨k, hk, rfl, HB, HQ, HA, HDi⟩ := hrel
    have p2 := HQ.out.cell 2
    simp at p2
    by_cases hlt : k < NH
    case pos =>
      obtain ⟨wo, rfl⟩ : ∃ wo : World, wo = wr := ⟨_, rfl⟩
      have hkl : k < p.hosts.length := by have := HNH.out; omega
      have hkc : k ≤ ch := by omega
      have hto := (HRh.out.below HB.out).take (k := k) (by omega)
      rw [← hsCells_take] at hto
      have htl : (p.hosts.take k).length = k := by rw [List.length_take]; omega
      obtain ⟨q, o, rfl, hc⟩ := HRh.out.cell HB.out (by omega)
      have hXl : p.hosts[k]? = some p.hosts[k] := List.getElem?_eq_getElem hkl
      have htk := List.take_succ_eq_append_getElem hkl
      have hXf := HF.out.h _ (List.getElem_mem hkl)
      generalize p.hosts[k] = X at hXl htk hXf
      obtain ⟨e0, e1, e2, e3, e4⟩ := hsCells_at p.hosts k X hXl
      have d0 := hc _ _ e0
      have d1 := hc _ _ e1
      have d2 := hc _ _ e2
      have d3 := hc _ _ e3
      have d4 := hc _ _ e4
      rw [← Nat.add_assoc] at d1 d2 d3 d4
      have hla := fun u => rlabel_any X.name hXf.1 u
      have hmp := fun u => rmayPrefix_any X.net hXf.2 u
      have hho := fun u (hu : Below wo.heap.size wo u) => rhost_any (p.hosts.take k) (v := .slice (some ⟨q, o, none⟩) k ch) (w := u) (by rw [htl]; exact hto.below hu) (by omega) X.name
      have hok : okHs X = (labelB X.name && pmay X.net) := rfl
      rw [show ((p.hosts.take k).any fun x => decide (x.name = X.name)) = hasH (p.hosts.take k) X.name from rfl] at hho
      obtain ⟨x1, ⟨⟨x2, x3, x4⟩, x5⟩⟩ := X
      unfold Pf.cells at hmp
      unfold FindR at hho
      simp only at d0 d1 d2 d3 d4 hla hmp hok hho
      generalize labelB x1 = LB at hla hok
      generalize pmay ⟨⟨x2, x3, x4⟩, x5⟩ = MP at hmp hok
      obtain ⟨HH, hHH⟩ : ∃ b, b = hasH (p.hosts.take k) x1 := ⟨_, rfl⟩
      rw [← hHH] at hho
      have HLa := Lib.hid hla
      have HMp := Lib.hid hmp
      have HHo := Lib.hid hho
      have HOk := Lib.hid hok
      have HTk := Lib.hid htk
      have HXl := Lib.hid hXl
      have HHH := Lib.hid hHH
      clear htk hXl hXf e0 e1 e2 e3 e4 hc hla hmp hok hho hHH hto htl hkl
      go_upto_region 7 with fail
      have M1 := Lib.hid (Blk.new wo 53 #[.string x1, .bool x2, .int .u64 (x3 : Int), .int .u64 (x4 : Int), .int .u8 (x5 : Int)])
      have q1' := boxed wo (.cells #[.string x1, .bool x2, .int .u64 (x3 : Int), .int .u64 (x4 : Int), .int .u8 (x5 : Int)] 53)
      have BB := Lib.hid (after HB.out q1')
      have BQ := Lib.hid (HQ.out.below q1' HQ.out.lt)
      have B0 := Lib.hid q1'
      generalize wo.alloc (.cells #[.string x1, .bool x2, .int .u64 (x3 : Int), .int .u64 (x4 : Int), .int .u8 (x5 : Int)] 53) = w4 at M1 q1' BB BQ B0 ⊢
      generalize wo.heap.size = M at M1 ⊢
      clear q1' HB HQ d0 d1 d2 d3 d4 p2
      have m0 := M1.out.cell 0
      have m1 := M1.out.cell 1
      have m2 := M1.out.cell 2
      have m3 := M1.out.cell 3
      have m4 := M1.out.cell 4
      have b2 := BQ.out.cell 2
      simp at m0 m1 m2 m3 m4 b2
      cases LB with
      | false =>
        have HRf : RowKit.Hid (R = false) := Lib.hid (by rw [HR2.out, all_false HXl.out (by rw [HOk.out]; rfl), Bool.false_and])
        refine wp_region_held_drew (S := (fun w' => w'.cell? ⟨M, 0, none⟩ = some (.string x1) ∧ w'.cell? ⟨M, 1, none⟩ = some (.bool x2) ∧ w'.cell? ⟨M, 2, none⟩ = some (.int .u64 (x3 : Int)) ∧ w'.cell? ⟨M, 3, none⟩ = some (.int .u64 (x4 : Int)) ∧ w'.cell? ⟨M, 4, none⟩ = some (.int .u8 (x5 : Int)) ∧ w'.cell? ⟨Q, 2, none⟩ = some (.slice (some ⟨q, o, none⟩) NH ch))) (by kernel_rfl) (⟨m0, m1, m2, m3, m4, b2⟩) (fun hHeld => ?_)
        refine tH 0 ?_; try simp only [Ap]
        refine tH 1 ?_; try simp only [Ap]
        refine wpAnyH_ready (rs := [2]) (by kernel_rfl) (by simp) ?_
        refine AllReadyH.cons rfl (fun K hK => ?_) AllReadyH.nil
        go_simp
        refine (HLa.out _).mono ?_
        rintro r wb ⟨rfl, db⟩
        have eb : Below w4.heap.size w4 wb := ⟨db.os, db.tape, db.output, db.size, db.block⟩
        clear db
        refine hK.out _ _ (⟨below_cell' m0 eb, below_cell' m1 eb, below_cell' m2 eb, below_cell' m3 eb, below_cell' m4 eb, below_cell' b2 eb⟩) (fun hHeld => ?_)
        clear hK K
        try simp only [Ap]
        refine tH 3 ?_; try simp only [Ap]
        refine tH 4 ?_; try simp only [Ap]
        refine tU 5 ?_; try simp only [Ap]
        refine tU 6 ?_; try simp only [Ap]
        refine tU 7 ?_; try simp only [Ap]
        refine tU 8 ?_; try simp only [Ap]
        refine tH 9 ?_; try simp only [Ap]
        refine tH 10 ?_; try simp only [Ap]
        refine tU 11 ?_; try simp only [Ap]
        refine tU 12 ?_; try simp only [Ap]
        refine tU 13 ?_; try simp only [Ap]
        refine tU 14 ?_; try simp only [Ap]
        refine tU 15 ?_; try simp only [Ap]
        refine tU 16 ?_; try simp only [Ap]
        refine tU 17 ?_; try simp only [Ap]
        refine tU 18 ?_; try simp only [Ap]
        refine tH 19 ?_; try simp only [Ap]
        refine wpAnyH_done (by kernel_rfl) ?_ _
        go_wp2_with fail
        go_ret
        exact ⟨by rw [HRf.out]; rfl, after BB.out eb⟩
      | true =>
      cases MP with
      | false =>
        have HRf : RowKit.Hid (R = false) := Lib.hid (by rw [HR2.out, all_false HXl.out (by rw [HOk.out]; rfl), Bool.false_and])
        refine wp_region_held_drew (S := (fun w' => w'.cell? ⟨M, 0, none⟩ = some (.string x1) ∧ w'.cell? ⟨M, 1, none⟩ = some (.bool x2) ∧ w'.cell? ⟨M, 2, none⟩ = some (.int .u64 (x3 : Int)) ∧ w'.cell? ⟨M, 3, none⟩ = some (.int .u64 (x4 : Int)) ∧ w'.cell? ⟨M, 4, none⟩ = some (.int .u8 (x5 : Int)) ∧ w'.cell? ⟨Q, 2, none⟩ = some (.slice (some ⟨q, o, none⟩) NH ch))) (by kernel_rfl) (⟨m0, m1, m2, m3, m4, b2⟩) (fun hHeld => ?_)
        refine tH 0 ?_; try simp only [Ap]
        refine tH 1 ?_; try simp only [Ap]
        refine wpAnyH_ready (rs := [2]) (by kernel_rfl) (by simp) ?_
        refine AllReadyH.cons rfl (fun K hK => ?_) AllReadyH.nil
        go_simp
        refine (HLa.out _).mono ?_
        rintro r wb ⟨rfl, db⟩
        have eb : Below w4.heap.size w4 wb := ⟨db.os, db.tape, db.output, db.size, db.block⟩
        clear db
        refine hK.out _ _ (⟨below_cell' m0 eb, below_cell' m1 eb, below_cell' m2 eb, below_cell' m3 eb, below_cell' m4 eb, below_cell' b2 eb⟩) (fun hHeld => ?_)
        clear hK K
        try simp only [Ap]
        refine tH 3 ?_; try simp only [Ap]
        refine tH 4 ?_; try simp only [Ap]
        refine tH 5 ?_; try simp only [Ap]
        refine tH 6 ?_; try simp only [Ap]
        refine wpAnyH_ready (rs := [7]) (by kernel_rfl) (by simp) ?_
        refine AllReadyH.cons rfl (fun K hK => ?_) AllReadyH.nil
        go_simp
        refine (HMp.out _).mono ?_
        rintro r wc ⟨rfl, dc⟩
        have ec := after eb dc
        clear dc
        refine hK.out _ _ (⟨below_cell' m0 ec, below_cell' m1 ec, below_cell' m2 ec, below_cell' m3 ec, below_cell' m4 ec, below_cell' b2 ec⟩) (fun hHeld => ?_)
        clear hK K
        try simp only [Ap]
        refine tH 8 ?_; try simp only [Ap]
        refine tH 9 ?_; try simp only [Ap]
        refine tH 10 ?_; try simp only [Ap]
        refine tU 11 ?_; try simp only [Ap]
        refine tU 12 ?_; try simp only [Ap]
        refine tU 13 ?_; try simp only [Ap]
        refine tU 14 ?_; try simp only [Ap]
        refine tU 15 ?_; try simp only [Ap]
        refine tU 16 ?_; try simp only [Ap]
        refine tU 17 ?_; try simp only [Ap]
        refine tU 18 ?_; try simp only [Ap]
        refine tH 19 ?_; try simp only [Ap]
        refine wpAnyH_done (by kernel_rfl) ?_ _
        go_wp2_with fail
        go_ret
        exact ⟨by rw [HRf.out]; rfl, after BB.out ec⟩
      | true =>
      cases HH with
      | true =>
        have HRf : RowKit.Hid (R = false) := Lib.hid (by
          have hm := hasH_mem HHH.out.symm
          rw [List.map_take] at hm
          rw [HR2.out, distinct_not (k := k) (x := x1) (by rw [List.getElem?_map, HXl.out]; rfl) hm, Bool.and_false, Bool.and_false])
        refine wp_region_held_drew (S := (fun w' => w'.cell? ⟨M, 0, none⟩ = some (.string x1) ∧ w'.cell? ⟨M, 1, none⟩ = some (.bool x2) ∧ w'.cell? ⟨M, 2, none⟩ = some (.int .u64 (x3 : Int)) ∧ w'.cell? ⟨M, 3, none⟩ = some (.int .u64 (x4 : Int)) ∧ w'.cell? ⟨M, 4, none⟩ = some (.int .u8 (x5 : Int)) ∧ w'.cell? ⟨Q, 2, none⟩ = some (.slice (some ⟨q, o, none⟩) NH ch))) (by kernel_rfl) (⟨m0, m1, m2, m3, m4, b2⟩) (fun hHeld => ?_)
        refine tH 0 ?_; try simp only [Ap]
        refine tH 1 ?_; try simp only [Ap]
        refine wpAnyH_ready (rs := [2]) (by kernel_rfl) (by simp) ?_
        refine AllReadyH.cons rfl (fun K hK => ?_) AllReadyH.nil
        go_simp
        refine (HLa.out _).mono ?_
        rintro r wb ⟨rfl, db⟩
        have eb : Below w4.heap.size w4 wb := ⟨db.os, db.tape, db.output, db.size, db.block⟩
        clear db
        refine hK.out _ _ (⟨below_cell' m0 eb, below_cell' m1 eb, below_cell' m2 eb, below_cell' m3 eb, below_cell' m4 eb, below_cell' b2 eb⟩) (fun hHeld => ?_)
        clear hK K
        try simp only [Ap]
        refine tH 3 ?_; try simp only [Ap]
        refine tH 4 ?_; try simp only [Ap]
        refine tH 5 ?_; try simp only [Ap]
        refine tH 6 ?_; try simp only [Ap]
        refine wpAnyH_ready (rs := [7]) (by kernel_rfl) (by simp) ?_
        refine AllReadyH.cons rfl (fun K hK => ?_) AllReadyH.nil
        go_simp
        refine (HMp.out _).mono ?_
        rintro r wc ⟨rfl, dc⟩
        have ec := after eb dc
        clear dc
        refine hK.out _ _ (⟨below_cell' m0 ec, below_cell' m1 ec, below_cell' m2 ec, below_cell' m3 ec, below_cell' m4 ec, below_cell' b2 ec⟩) (fun hHeld => ?_)
        clear hK K
        try simp only [Ap]
        refine tH 8 ?_; try simp only [Ap]
        refine tH 9 ?_; try simp only [Ap]
        refine tH 10 ?_; try simp only [Ap]
        refine tH 11 ?_; try simp only [Ap]
        refine tH 12 ?_; try simp only [Ap]
        refine tH 13 ?_; try simp only [Ap]
        refine tH 14 ?_; try simp only [Ap]
        refine tH 15 ?_; try simp only [Ap]
        refine tH 16 ?_; try simp only [Ap]
        refine wpAnyH_ready (rs := [17]) (by kernel_rfl) (by simp) ?_
        refine AllReadyH.cons rfl (fun K hK => ?_) AllReadyH.nil
        go_simp
        refine (HHo.out _ (after B0.out ec)).mono ?_
        rintro r wd ⟨⟨z, rfl, z1, z2⟩, dd⟩
        have qz := z1 rfl
        have ed := after ec dd
        clear dd z1 z2
        refine hK.out _ _ (⟨below_cell' m0 ed, below_cell' m1 ed, below_cell' m2 ed, below_cell' m3 ed, below_cell' m4 ed, below_cell' b2 ed⟩) (fun hHeld => ?_)
        clear hK K
        try simp only [Ap]
        refine tH 18 ?_; try simp only [Ap]
        refine tH 19 ?_; try simp only [Ap]
        refine wpAnyH_done (by kernel_rfl) ?_ _
        go_wp2_with fail
        go_ret
        exact ⟨by rw [HRf.out]; rfl, after BB.out ed⟩
      | false =>
        have HA2 : RowKit.Hid ((p.hosts.take (k + 1)).all okHs = true) := Lib.hid (by rw [HTk.out, List.all_append, HA.out, List.all_cons, HOk.out]; rfl)
        have HD2 : RowKit.Hid (distinct ((p.hosts.take (k + 1)).map (·.name)) = true) := Lib.hid (distinct_snoc_hosts HTk.out HDi.out HHH.out.symm)
        refine wp_region_held_drew (S := (fun w' => w'.cell? ⟨M, 0, none⟩ = some (.string x1) ∧ w'.cell? ⟨M, 1, none⟩ = some (.bool x2) ∧ w'.cell? ⟨M, 2, none⟩ = some (.int .u64 (x3 : Int)) ∧ w'.cell? ⟨M, 3, none⟩ = some (.int .u64 (x4 : Int)) ∧ w'.cell? ⟨M, 4, none⟩ = some (.int .u8 (x5 : Int)) ∧ w'.cell? ⟨Q, 2, none⟩ = some (.slice (some ⟨q, o, none⟩) NH ch))) (by kernel_rfl) (⟨m0, m1, m2, m3, m4, b2⟩) (fun hHeld => ?_)
        refine tH 0 ?_; try simp only [Ap]
        refine tH 1 ?_; try simp only [Ap]
        refine wpAnyH_ready (rs := [2]) (by kernel_rfl) (by simp) ?_
        refine AllReadyH.cons rfl (fun K hK => ?_) AllReadyH.nil
        go_simp
        refine (HLa.out _).mono ?_
        rintro r wb ⟨rfl, db⟩
        have eb : Below w4.heap.size w4 wb := ⟨db.os, db.tape, db.output, db.size, db.block⟩
        clear db
        refine hK.out _ _ (⟨below_cell' m0 eb, below_cell' m1 eb, below_cell' m2 eb, below_cell' m3 eb, below_cell' m4 eb, below_cell' b2 eb⟩) (fun hHeld => ?_)
        clear hK K
        try simp only [Ap]
        refine tH 3 ?_; try simp only [Ap]
        refine tH 4 ?_; try simp only [Ap]
        refine tH 5 ?_; try simp only [Ap]
        refine tH 6 ?_; try simp only [Ap]
        refine wpAnyH_ready (rs := [7]) (by kernel_rfl) (by simp) ?_
        refine AllReadyH.cons rfl (fun K hK => ?_) AllReadyH.nil
        go_simp
        refine (HMp.out _).mono ?_
        rintro r wc ⟨rfl, dc⟩
        have ec := after eb dc
        clear dc
        refine hK.out _ _ (⟨below_cell' m0 ec, below_cell' m1 ec, below_cell' m2 ec, below_cell' m3 ec, below_cell' m4 ec, below_cell' b2 ec⟩) (fun hHeld => ?_)
        clear hK K
        try simp only [Ap]
        refine tH 8 ?_; try simp only [Ap]
        refine tH 9 ?_; try simp only [Ap]
        refine tH 10 ?_; try simp only [Ap]
        refine tH 11 ?_; try simp only [Ap]
        refine tH 12 ?_; try simp only [Ap]
        refine tH 13 ?_; try simp only [Ap]
        refine tH 14 ?_; try simp only [Ap]
        refine tH 15 ?_; try simp only [Ap]
        refine tH 16 ?_; try simp only [Ap]
        refine wpAnyH_ready (rs := [17]) (by kernel_rfl) (by simp) ?_
        refine AllReadyH.cons rfl (fun K hK => ?_) AllReadyH.nil
        go_simp
        refine (HHo.out _ (after B0.out ec)).mono ?_
        rintro r wd ⟨⟨z, rfl, z1, z2⟩, dd⟩
        have qz := z2 rfl
        have ed := after ec dd
        clear dd z1 z2
        refine hK.out _ _ (⟨below_cell' m0 ed, below_cell' m1 ed, below_cell' m2 ed, below_cell' m3 ed, below_cell' m4 ed, below_cell' b2 ed⟩) (fun hHeld => ?_)
        clear hK K
        try simp only [Ap]
        refine tH 18 ?_; try simp only [Ap]
        refine tH 19 ?_; try simp only [Ap]
        refine wpAnyH_done (by kernel_rfl) ?_ _
        clear HA HDi m0 m1 m2 m3 m4 b2
        go_wp2_with fail
        go_roundw
        case rel => exact ⟨k + 1, by omega, by go_num, Lib.hid (after BB.out ed), Lib.hid (BQ.out.below ed BQ.out.lt), HA2, HD2⟩
        case measure => simp [intOf]; omega
    obtain rfl : NH = k := by omega
    have hA := HA.out
    have hD := HDi.out
    rw [List.take_of_length_le (by have := HNH.out; omega)] at hA hD
    have hR := HR2.out
    rw [hA, hD, Bool.true_and, Bool.and_true] at hR
    have HR3 := Lib.hid hR
    clear hR hA hD HR2 HA HDi
    have p3 := HQ.out.cell 3
    simp at p3
    go_wp2_with fail
    clear p2 p3
    go_loopw [5] (fun v5 wr => ∃ k : Nat, k ≤ NA ∧ v5 = .int .i64 (k : Int) ∧ RowKit.Hid (Below w.heap.size w wr) ∧ RowKit.Hid (Blk wr Q 26 #[.slice Ag lg cg, .slice At lt ct, .slice Ah NH ch, .slice Aa NA ca]) ∧ RowKit.Hid ((p.acls.take k).all (mayAc p) = true)) (fun v5 _ => NA - (intOf v5).toNat)
    case atStart => exact ⟨0, Nat.zero_le _, rfl, HB, HQ, Lib.hid rfl⟩
    case round =>
      clear HB HQ
      obtain ⟨k, hk, rfl, HB, HQ, HA⟩ := hrel
      have p3 := HQ.out.cell 3
      simp at p3
      by_cases hlt : k < NA
      case pos =>
        obtain ⟨wo, rfl⟩ : ∃ wo : World, wo = wr := ⟨_, rfl⟩
        have hlx := congrArg List.length HXa.out
        rw [List.length_map] at hlx
        have hkl : k < p.acls.length := by have := HNA.out; omega
        obtain ⟨X, hX⟩ : ∃ X, xa[k]? = some X := ⟨_, List.getElem?_eq_getElem (by omega)⟩
        have hXl : p.acls[k]? = some X.a := by rw [← HXa.out, List.getElem?_map, hX]; rfl
        have hXg : p.acls[k] = X.a := (List.getElem?_eq_some_iff.1 hXl).2
        have htk := List.take_succ_eq_append_getElem hkl
        rw [hXg] at htk
        obtain ⟨q, o, rfl, hc⟩ := HRa.out.cell HB.out (by omega)
        obtain ⟨e0, e1, e2, e3⟩ := acCells_at xa k X hX
        have d0 := hc _ _ e0
        have d1 := hc _ _ e1
        have d2 := hc _ _ e2
        have d3 := hc _ _ e3
        rw [← Nat.add_assoc] at d1 d2 d3
        have hxm := HIn.out X (List.mem_of_getElem? hX)
        have hXf := HF.out.a X.a (List.mem_of_getElem? hXl)
        obtain ⟨⟨ps, ss, ds, os⟩, pv, sv, dv, ov⟩ := X
        obtain ⟨A1, c1, f1⟩ := hxm.p.shape
        obtain ⟨A2, c2, f2⟩ := hxm.s.shape
        obtain ⟨A3, c3, f3⟩ := hxm.d.shape
        obtain ⟨A4, c4, f4⟩ := hxm.o.shape
        obtain ⟨x1, x2, x3, x4⟩ := hxm
        simp only at f1 f2 f3 f4 d0 d1 d2 d3 x1 x2 x3 x4 htk hXl
        subst f1 f2 f3 f4
        have hS := fun u (hu : Below w.heap.size w u) => HSe.out u hu _ ss (x2.below hu) hXf.sl hXf.src
        have hD := fun u (hu : Below w.heap.size w u) => HSe.out u hu _ ds (x3.below hu) hXf.dl hXf.dst
        have hpl := hXf.pl
        have hol := hXf.ol
        have hm := mayAc_eq p ⟨ps, ss, ds, os⟩
        simp only at hpl hol hm
        obtain ⟨S, hS'⟩ : ∃ b, b = maySels p ss := ⟨_, rfl⟩
        obtain ⟨D, hD'⟩ : ∃ b, b = maySels p ds := ⟨_, rfl⟩
        rw [← hS', ← hD'] at hm
        rw [← hS'] at hS
        rw [← hD'] at hD
        obtain ⟨n1, hn1⟩ : ∃ n, n = ps.length := ⟨_, rfl⟩
        obtain ⟨n4, hn4⟩ : ∃ n, n = os.length := ⟨_, rfl⟩
        rw [← hn1] at d0 x1 hpl
        rw [← hn4] at d3 x4 hm hol
        obtain ⟨n2, hn2⟩ : ∃ n, n = ss.length := ⟨_, rfl⟩
        obtain ⟨n3, hn3⟩ : ∃ n, n = ds.length := ⟨_, rfl⟩
        rw [← hn2] at d1 hS
        rw [← hn3] at d2 hD
        have HN1 := Lib.hid hn1
        have HN4 := Lib.hid hn4
        have HS := Lib.hid hS
        have HDs := Lib.hid hD
        have HM := Lib.hid hm
        have HX1 := Lib.hid x1
        have HX4 := Lib.hid x4
        have HXf := Lib.hid hXf
        have HTk := Lib.hid htk
        have HXl := Lib.hid hXl
        clear hlx hkl hX hXl hXg htk hc e0 e1 e2 e3 hXf hS hD hm hS' hD' x1 x2 x3 x4 hn1 hn2 hn3 hn4
        go_upto_region 13 with fail
        have M1 := Lib.hid (Blk.new wo 57 #[.slice A1 n1 c1, .slice A2 n2 c2, .slice A3 n3 c3, .slice A4 n4 c4])
        have q1 := boxed wo (.cells #[.slice A1 n1 c1, .slice A2 n2 c2, .slice A3 n3 c3, .slice A4 n4 c4] 57)
        have BB := Lib.hid (after HB.out q1)
        have BQ := Lib.hid (HQ.out.below q1 HQ.out.lt)
        generalize wo.alloc (.cells #[.slice A1 n1 c1, .slice A2 n2 c2, .slice A3 n3 c3, .slice A4 n4 c4] 57) = w4 at M1 q1 BB BQ ⊢
        generalize wo.heap.size = M at M1 ⊢
        clear q1 HB HQ d0 d1 d2 d3 p3
        have b0 := BQ.out.cell 0
        have b1 := BQ.out.cell 1
        have b2 := BQ.out.cell 2
        have b3 := BQ.out.cell 3
        have m1 := M1.out.cell 1
        simp at b0 b1 b2 b3 m1
        cases S with
        | false =>
          have HRf : RowKit.Hid (R = false) := Lib.hid (by rw [HR3.out, all_false HXl.out (by rw [HM.out]; simp)])
          go_wp2_with (go_at_call 68; (with_reducible refine (HS.out _ BB.out).mono ?_); rintro r w5 ⟨rfl, d5⟩; have BB5 := Lib.hid (after BB.out d5); have BQ5 := Lib.hid (BQ.out.below d5 BQ.out.lt); have M5 := Lib.hid (M1.out.below d5 M1.out.lt); have f0 := BQ5.out.cell 0; have f1 := BQ5.out.cell 1; have f2 := BQ5.out.cell 2; have f3 := BQ5.out.cell 3; have m2 := M5.out.cell 2; simp at f0 f1 f2 f3 m2
          )
          go_ret
          exact ⟨by rw [HRf.out]; rfl, BB5.out⟩
        | true =>
        cases D with
        | false =>
          have HRf : RowKit.Hid (R = false) := Lib.hid (by rw [HR3.out, all_false HXl.out (by rw [HM.out]; simp)])
          go_wp2_with (first
            | (go_at_call 68; (with_reducible refine (HS.out _ BB.out).mono ?_); rintro r w5 ⟨rfl, d5⟩; have BB5 := Lib.hid (after BB.out d5); have BQ5 := Lib.hid (BQ.out.below d5 BQ.out.lt); have M5 := Lib.hid (M1.out.below d5 M1.out.lt); have f0 := BQ5.out.cell 0; have f1 := BQ5.out.cell 1; have f2 := BQ5.out.cell 2; have f3 := BQ5.out.cell 3; have m2 := M5.out.cell 2; simp at f0 f1 f2 f3 m2
            )
            | (go_at_call 68; (with_reducible refine (HDs.out _ BB5.out).mono ?_); rintro r w6 ⟨rfl, d6⟩; have BB6 := Lib.hid (after BB5.out d6); have BQ6 := Lib.hid (BQ5.out.below d6 BQ5.out.lt); have M6 := Lib.hid (M5.out.below d6 M5.out.lt); have m0 := M6.out.cell 0; have m3 := M6.out.cell 3; simp at m0 m3
            ))
          go_ret
          exact ⟨by rw [HRf.out]; rfl, BB6.out⟩
        | true =>
        by_cases h64 : n4 ≤ 64
        case neg =>
          have q1 : (64 : Int) < (n4 : Int) := by omega
          have HRf : RowKit.Hid (R = false) := Lib.hid (by rw [HR3.out, all_false HXl.out (by rw [HM.out]; (rw [decide_eq_false h64]; simp))])
          clear h64
          go_wp2_with (first
            | (go_at_call 68; (with_reducible refine (HS.out _ BB.out).mono ?_); rintro r w5 ⟨rfl, d5⟩; have BB5 := Lib.hid (after BB.out d5); have BQ5 := Lib.hid (BQ.out.below d5 BQ.out.lt); have M5 := Lib.hid (M1.out.below d5 M1.out.lt); have f0 := BQ5.out.cell 0; have f1 := BQ5.out.cell 1; have f2 := BQ5.out.cell 2; have f3 := BQ5.out.cell 3; have m2 := M5.out.cell 2; simp at f0 f1 f2 f3 m2
            )
            | (go_at_call 68; (with_reducible refine (HDs.out _ BB5.out).mono ?_); rintro r w6 ⟨rfl, d6⟩; have BB6 := Lib.hid (after BB5.out d6); have BQ6 := Lib.hid (BQ5.out.below d6 BQ5.out.lt); have M6 := Lib.hid (M5.out.below d6 M5.out.lt); have m0 := M6.out.cell 0; have m3 := M6.out.cell 3; simp at m0 m3
            ))
          go_ret
          exact ⟨by rw [HRf.out]; rfl, BB6.out⟩
        have q1 : ¬ (64 : Int) < (n4 : Int) := by omega
        by_cases h3 : n1 ≤ 3
        case neg =>
          have q2 : (3 : Int) < (n1 : Int) := by omega
          have HRf : RowKit.Hid (R = false) := Lib.hid (by rw [HR3.out, all_false HXl.out (by rw [HM.out]; (rw [chk_len (by have := HN1.out; omega)]; simp))])
          clear h3
          go_wp2_with (first
            | (go_at_call 68; (with_reducible refine (HS.out _ BB.out).mono ?_); rintro r w5 ⟨rfl, d5⟩; have BB5 := Lib.hid (after BB.out d5); have BQ5 := Lib.hid (BQ.out.below d5 BQ.out.lt); have M5 := Lib.hid (M1.out.below d5 M1.out.lt); have f0 := BQ5.out.cell 0; have f1 := BQ5.out.cell 1; have f2 := BQ5.out.cell 2; have f3 := BQ5.out.cell 3; have m2 := M5.out.cell 2; simp at f0 f1 f2 f3 m2
            )
            | (go_at_call 68; (with_reducible refine (HDs.out _ BB5.out).mono ?_); rintro r w6 ⟨rfl, d6⟩; have BB6 := Lib.hid (after BB5.out d6); have BQ6 := Lib.hid (BQ5.out.below d6 BQ5.out.lt); have M6 := Lib.hid (M5.out.below d6 M5.out.lt); have m0 := M6.out.cell 0; have m3 := M6.out.cell 3; simp at m0 m3
            ))
          go_ret
          exact ⟨by rw [HRf.out]; rfl, BB6.out⟩
        have q2 : ¬ (3 : Int) < (n1 : Int) := by omega
        obtain ⟨C, hC⟩ : ∃ c, c = chk 0 ps := ⟨_, rfl⟩
        have hM2 := HM.out
        rw [decide_eq_true h64, ← hC, Bool.true_and, Bool.true_and, Bool.and_true] at hM2
        have HM2 := Lib.hid hM2
        have HC : RowKit.Hid (C = chk (lastN (ps.take 0)) (ps.drop 0)) := Lib.hid hC
        clear hM2 hC HM
        go_upto_region 15 with (first
          | (go_at_call 68; (with_reducible refine (HS.out _ BB.out).mono ?_); rintro r w5 ⟨rfl, d5⟩; have BB5 := Lib.hid (after BB.out d5); have BQ5 := Lib.hid (BQ.out.below d5 BQ.out.lt); have M5 := Lib.hid (M1.out.below d5 M1.out.lt); have f0 := BQ5.out.cell 0; have f1 := BQ5.out.cell 1; have f2 := BQ5.out.cell 2; have f3 := BQ5.out.cell 3; have m2 := M5.out.cell 2; simp at f0 f1 f2 f3 m2
          )
          | (go_at_call 68; (with_reducible refine (HDs.out _ BB5.out).mono ?_); rintro r w6 ⟨rfl, d6⟩; have BB6 := Lib.hid (after BB5.out d6); have BQ6 := Lib.hid (BQ5.out.below d6 BQ5.out.lt); have M6 := Lib.hid (M5.out.below d6 M5.out.lt); have m0 := M6.out.cell 0; have m3 := M6.out.cell 3; simp at m0 m3
          ))
        clear d5 d6 f0 f1 f2 f3 m2 m0 b0 b1 b2 b3 m1 BB5 BQ5 M5 BB BQ M1 q1 q2 h64 h3 HS HDs
        go_wp2_with fail
        clear m3
        go_loopw [7] (fun v7 wr => ∃ i : Nat, i ≤ n4 ∧ v7 = .int .i64 (i : Int) ∧ RowKit.Hid (Below w.heap.size w wr) ∧ RowKit.Hid (Blk wr Q 26 #[.slice Ag lg cg, .slice At lt ct, .slice Ah NH ch, .slice (some ⟨q, o, none⟩) NA ca]) ∧ RowKit.Hid (Blk wr M 57 #[.slice A1 n1 c1, .slice A2 n2 c2, .slice A3 n3 c3, .slice A4 n4 c4]) ∧ RowKit.Hid ((os.take i).all (fun x => decide (x.1 ≤ x.2)) = true)) (fun v7 _ => n4 - (intOf v7).toNat)
        case atStart => exact ⟨0, Nat.zero_le _, rfl, BB6, BQ6, M6, Lib.hid rfl⟩
        case round =>
          clear BB6 BQ6 M6
          obtain ⟨i, hi, rfl, BB, BQ, M1, HO⟩ := hrel
          have m3 := M1.out.cell 3
          simp at m3
          by_cases hlt2 : i < n4
          case pos =>
            have hkl : i < os.length := by have := HN4.out; omega
            obtain ⟨q2, o2, rfl, hc⟩ := HX4.out.cell BB.out (by omega)
            have hOl : os[i]? = some os[i] := List.getElem?_eq_getElem hkl
            have htk := List.take_succ_eq_append_getElem hkl
            have hYf := HXf.out.ob _ (List.getElem_mem hkl)
            generalize os[i] = Y at hOl htk hYf
            obtain ⟨e0, e1⟩ := portCells_at os i Y hOl
            have d0 := hc _ _ e0
            have d1 := hc _ _ e1
            rw [← Nat.add_assoc] at d1
            obtain ⟨y1, y2⟩ := Y
            simp only at d0 d1 hYf
            clear hc e0 e1 hkl
            go_upto_region 18 with fail
            by_cases hle : y1 ≤ y2
            · have q1 : ¬ (y2 : Int) < (y1 : Int) := by omega
              have HO2 : RowKit.Hid ((os.take (i + 1)).all (fun x => decide (x.1 ≤ x.2)) = true) := Lib.hid (by rw [htk, List.all_append, HO.out]; simp [hle])
              clear htk hOl hle HO
              go_quiet (fail)
              go_wp2_with fail
              go_roundw
              case rel => exact ⟨i + 1, by omega, by go_num, Lib.hid ⟨BB.out.os, BB.out.tape, BB.out.output, BB.out.size, BB.out.block⟩, Lib.hid (BQ.out.drewN _), Lib.hid (M1.out.drewN _), HO2⟩
              case measure => simp [intOf]; omega
            · have q1 : (y2 : Int) < (y1 : Int) := by omega
              have HRf : RowKit.Hid (R = false) := Lib.hid (by rw [HR3.out, all_false HXl.out (by rw [HM2.out, all_false hOl (by simp [hle]), Bool.false_and])])
              clear htk hOl hle HO
              go_quiet (fail)
              go_wp2_with fail
              go_ret
              exact ⟨by rw [HRf.out]; rfl, ⟨BB.out.os, BB.out.tape, BB.out.output, BB.out.size, BB.out.block⟩⟩
          obtain rfl : n4 = i := by omega
          have hO := HO.out
          rw [List.take_of_length_le (by have := HN4.out; omega)] at hO
          have hM3 := HM2.out
          rw [hO, Bool.true_and] at hM3
          have HM3 := Lib.hid hM3
          clear hO hM3 HO
          have m0 := M1.out.cell 0
          simp at m0
          go_wp2_with fail
          clear m0 m3
          go_loopw [8] (fun v8 wr => ∃ i : Nat, i ≤ n1 ∧ v8 = .int .i64 (i : Int) ∧ RowKit.Hid (Below w.heap.size w wr) ∧ RowKit.Hid (Blk wr Q 26 #[.slice Ag lg cg, .slice At lt ct, .slice Ah NH ch, .slice (some ⟨q, o, none⟩) NA ca]) ∧ RowKit.Hid (Blk wr M 57 #[.slice A1 n1 c1, .slice A2 n2 c2, .slice A3 n3 c3, .slice A4 n4 c4]) ∧ RowKit.Hid (C = chk (lastN (ps.take i)) (ps.drop i))) (fun v8 _ => n1 - (intOf v8).toNat)
          case atStart => exact ⟨0, Nat.zero_le _, rfl, BB, BQ, M1, HC⟩
          case round =>
            clear BB BQ M1 HC
            obtain ⟨i, hi, rfl, BB, BQ, M1, HC⟩ := hrel
            have m0 := M1.out.cell 0
            simp at m0
            by_cases hlt2 : i < n1
            case pos =>
              have hkl : i < ps.length := by have := HN1.out; omega
              obtain ⟨q2, o2, rfl, hc⟩ := HX1.out.cell BB.out (by omega)
              have hPl : ps[i]? = some ps[i] := List.getElem?_eq_getElem hkl
              have hpf := HXf.out.pb _ (List.getElem_mem hkl)
              have hch2 := HC.out
              rw [List.drop_eq_getElem_cons hkl, chk] at hch2
              have hlast := lastN_take hPl
              generalize ps[i] = x at hPl hpf hch2 hlast
              have d0 := hc _ _ (protoCells_at hPl)
              have Hlast := Lib.hid hlast
              by_cases x1 : x = 1
              case pos =>
                have e1 : ((x : Int) != 1) = false := by simp; omega
                have hok : okPr x = true := by rw [x1]; rfl
                by_cases k0 : i = 0
                case pos =>
                  have j0 : ¬ (0 : Int) < (i : Int) := by omega
                  have hlx : decide (lastN (ps.take i) < x) = true := by rw [k0]; exact decide_eq_true (by show 0 < x; omega)
                  clear k0
                  have HC3 : RowKit.Hid (C = chk (lastN (ps.take (i + 1))) (ps.drop (i + 1))) := Lib.hid (by rw [Hlast.out, hch2, hok, hlx]; rfl)
                  clear hok hlx hch2 HC hPl hc hkl hlast
                  go_wp2_with fail
                  go_roundw
                  case rel => exact ⟨i + 1, by omega, by go_num, BB, BQ, M1, HC3⟩
                  case measure => simp [intOf]; omega
                have j0 : (0 : Int) < (i : Int) := by omega
                have j1 : IntKind.i64.wrap ((i : Int) - 1) = ((i - 1 : Nat) : Int) := by rw [IntKind.wrap_i64]; omega
                have hprev : ps[i - 1]? = some (lastN (ps.take i)) := by
                  have h1 : ps[i - 1]? = some (ps[i - 1]'(by omega)) := List.getElem?_eq_getElem (by omega)
                  have h2 := lastN_take h1
                  rw [show i - 1 + 1 = i by omega] at h2
                  rw [h2]
                  exact h1
                have dp := hc _ _ (protoCells_at hprev)
                generalize lastN (ps.take i) = LN at hprev dp hch2
                by_cases hge : x ≤ LN
                case pos =>
                  have j3 : (x : Int) ≤ (LN : Int) := by omega
                  have hlx : decide (LN < x) = false := decide_eq_false (by omega)
                  have HRf : RowKit.Hid (R = false) := Lib.hid (by rw [HR3.out, all_false HXl.out (by rw [HM3.out, hch2, hok, hlx]; rfl)])
                  clear hok hlx hch2 HC hPl hc hkl hlast
                  go_wp2_with fail
                  go_ret
                  exact ⟨by rw [HRf.out]; rfl, BB.out⟩
                have j3 : ¬ (x : Int) ≤ (LN : Int) := by omega
                have hlx : decide (LN < x) = true := decide_eq_true (by omega)
                clear hprev
                have HC3 : RowKit.Hid (C = chk (lastN (ps.take (i + 1))) (ps.drop (i + 1))) := Lib.hid (by rw [Hlast.out, hch2, hok, hlx]; rfl)
                clear hok hlx hch2 HC hPl hc hkl hlast
                go_wp2_with fail
                go_roundw
                case rel => exact ⟨i + 1, by omega, by go_num, BB, BQ, M1, HC3⟩
                case measure => simp [intOf]; omega
              have e1 : ((x : Int) != 1) = true := by simp; omega
              by_cases x6 : x = 6
              case pos =>
                have e6 : ((x : Int) != 6) = false := by simp; omega
                have hok : okPr x = true := by rw [x6]; rfl
                by_cases k0 : i = 0
                case pos =>
                  have j0 : ¬ (0 : Int) < (i : Int) := by omega
                  have hlx : decide (lastN (ps.take i) < x) = true := by rw [k0]; exact decide_eq_true (by show 0 < x; omega)
                  clear k0
                  have HC3 : RowKit.Hid (C = chk (lastN (ps.take (i + 1))) (ps.drop (i + 1))) := Lib.hid (by rw [Hlast.out, hch2, hok, hlx]; rfl)
                  clear hok hlx hch2 HC hPl hc hkl hlast
                  go_wp2_with fail
                  go_roundw
                  case rel => exact ⟨i + 1, by omega, by go_num, BB, BQ, M1, HC3⟩
                  case measure => simp [intOf]; omega
                have j0 : (0 : Int) < (i : Int) := by omega
                have j1 : IntKind.i64.wrap ((i : Int) - 1) = ((i - 1 : Nat) : Int) := by rw [IntKind.wrap_i64]; omega
                have hprev : ps[i - 1]? = some (lastN (ps.take i)) := by
                  have h1 : ps[i - 1]? = some (ps[i - 1]'(by omega)) := List.getElem?_eq_getElem (by omega)
                  have h2 := lastN_take h1
                  rw [show i - 1 + 1 = i by omega] at h2
                  rw [h2]
                  exact h1
                have dp := hc _ _ (protoCells_at hprev)
                generalize lastN (ps.take i) = LN at hprev dp hch2
                by_cases hge : x ≤ LN
                case pos =>
                  have j3 : (x : Int) ≤ (LN : Int) := by omega
                  have hlx : decide (LN < x) = false := decide_eq_false (by omega)
                  have HRf : RowKit.Hid (R = false) := Lib.hid (by rw [HR3.out, all_false HXl.out (by rw [HM3.out, hch2, hok, hlx]; rfl)])
                  clear hok hlx hch2 HC hPl hc hkl hlast
                  go_wp2_with fail
                  go_ret
                  exact ⟨by rw [HRf.out]; rfl, BB.out⟩
                have j3 : ¬ (x : Int) ≤ (LN : Int) := by omega
                have hlx : decide (LN < x) = true := decide_eq_true (by omega)
                clear hprev
                have HC3 : RowKit.Hid (C = chk (lastN (ps.take (i + 1))) (ps.drop (i + 1))) := Lib.hid (by rw [Hlast.out, hch2, hok, hlx]; rfl)
                clear hok hlx hch2 HC hPl hc hkl hlast
                go_wp2_with fail
                go_roundw
                case rel => exact ⟨i + 1, by omega, by go_num, BB, BQ, M1, HC3⟩
                case measure => simp [intOf]; omega
              have e6 : ((x : Int) != 6) = true := by simp; omega
              by_cases x17 : x = 17
              case pos =>
                have e17 : ((x : Int) != 17) = false := by simp; omega
                have hok : okPr x = true := by rw [x17]; rfl
                by_cases k0 : i = 0
                case pos =>
                  have j0 : ¬ (0 : Int) < (i : Int) := by omega
                  have hlx : decide (lastN (ps.take i) < x) = true := by rw [k0]; exact decide_eq_true (by show 0 < x; omega)
                  clear k0
                  have HC3 : RowKit.Hid (C = chk (lastN (ps.take (i + 1))) (ps.drop (i + 1))) := Lib.hid (by rw [Hlast.out, hch2, hok, hlx]; rfl)
                  clear hok hlx hch2 HC hPl hc hkl hlast
                  go_wp2_with fail
                  go_roundw
                  case rel => exact ⟨i + 1, by omega, by go_num, BB, BQ, M1, HC3⟩
                  case measure => simp [intOf]; omega
                have j0 : (0 : Int) < (i : Int) := by omega
                have j1 : IntKind.i64.wrap ((i : Int) - 1) = ((i - 1 : Nat) : Int) := by rw [IntKind.wrap_i64]; omega
                have hprev : ps[i - 1]? = some (lastN (ps.take i)) := by
                  have h1 : ps[i - 1]? = some (ps[i - 1]'(by omega)) := List.getElem?_eq_getElem (by omega)
                  have h2 := lastN_take h1
                  rw [show i - 1 + 1 = i by omega] at h2
                  rw [h2]
                  exact h1
                have dp := hc _ _ (protoCells_at hprev)
                generalize lastN (ps.take i) = LN at hprev dp hch2
                by_cases hge : x ≤ LN
                case pos =>
                  have j3 : (x : Int) ≤ (LN : Int) := by omega
                  have hlx : decide (LN < x) = false := decide_eq_false (by omega)
                  have HRf : RowKit.Hid (R = false) := Lib.hid (by rw [HR3.out, all_false HXl.out (by rw [HM3.out, hch2, hok, hlx]; rfl)])
                  clear hok hlx hch2 HC hPl hc hkl hlast
                  go_wp2_with fail
                  go_ret
                  exact ⟨by rw [HRf.out]; rfl, BB.out⟩
                have j3 : ¬ (x : Int) ≤ (LN : Int) := by omega
                have hlx : decide (LN < x) = true := decide_eq_true (by omega)
                clear hprev
                have HC3 : RowKit.Hid (C = chk (lastN (ps.take (i + 1))) (ps.drop (i + 1))) := Lib.hid (by rw [Hlast.out, hch2, hok, hlx]; rfl)
                clear hok hlx hch2 HC hPl hc hkl hlast
                go_wp2_with fail
                go_roundw
                case rel => exact ⟨i + 1, by omega, by go_num, BB, BQ, M1, HC3⟩
                case measure => simp [intOf]; omega
              have e17 : ((x : Int) != 17) = true := by simp; omega
              have hok : okPr x = false := by unfold okPr; rw [decide_eq_false x1, decide_eq_false x6, decide_eq_false x17]; rfl
              have hlx : decide (lastN (ps.take i) < x) = decide (lastN (ps.take i) < x) := rfl
              have HRf : RowKit.Hid (R = false) := Lib.hid (by rw [HR3.out, all_false HXl.out (by rw [HM3.out, hch2, hok, hlx]; rfl)])
              clear hok hlx hch2 HC hPl hc hkl hlast
              go_wp2_with fail
              go_ret
              exact ⟨by rw [HRf.out]; rfl, BB.out⟩
            obtain rfl : n1 = i := by omega
            have hCt : C = true := by rw [HC.out, List.drop_eq_nil_of_le (by have := HN1.out; omega)]; rfl
            have HA2 : RowKit.Hid ((p.acls.take (k + 1)).all (mayAc p) = true) := Lib.hid (by rw [HTk.out, List.all_append, HA.out, List.all_cons, HM3.out, hCt]; rfl)
            clear HC hCt
            go_wp2_with fail
            go_roundw
            case rel => exact ⟨k + 1, by omega, by go_num, BB, BQ, HA2⟩
            case measure => simp [intOf]; omega
      obtain rfl : NA = k := by omega
      have HRt : RowKit.Hid (R = true) := Lib.hid (by have := HA.out; rw [List.take_of_length_le (by have := HNA.out; omega)] at this; rw [HR3.out, this])
      go_wp2_with fail
      go_ret
      exact ⟨by rw [HRt.out]; rfl, HB.out⟩
end Go.Proofs.YtbiglifngfgffaaGreatDoor

/- How a policy is written, piece by piece: the plain law. -/
namespace Go.Proofs.YtbiglifngfgffaaGreatDoor
open Go.RowKit

/- Words behind the first one, each behind a blank. -/
def tailW (l : List (List UInt8)) : List UInt8 := l.flatMap fun x => 32 :: x
theorem tailW_snoc (l : List (List UInt8)) (x : List UInt8) : tailW (l ++ [x]) = tailW l ++ 32 :: x := by unfold tailW; rw [List.flatMap_append]; simp
theorem join_tail (a : List UInt8) : ∀ l : List (List UInt8), Lib.join (a :: l) [32] = a ++ tailW l := by
  intro l
  induction l generalizing a with
  | nil => rw [Lib.join_one]; unfold tailW; simp
  | cons x r ih =>
    rw [join_two, ih x]
    unfold tailW
    rw [List.flatMap_cons]
    simp
/- Words between commas, step by step. -/
theorem join_snoc {c : List UInt8} : ∀ (l : List (List UInt8)) (x : List UInt8), Lib.join (l ++ [x]) c = Lib.join l c ++ (if l = [] then [] else c) ++ x := by
  intro l
  induction l with
  | nil => intro x; rw [List.nil_append, Lib.join_one, if_pos rfl]; rfl
  | cons a r ih =>
    intro x
    rw [if_neg (by simp)]
    cases r with
    | nil => rw [List.cons_append, List.nil_append, join_two, Lib.join_one, Lib.join_one, List.append_assoc]
    | cons b r =>
      rw [List.cons_append, List.cons_append, join_two, ← List.cons_append, ih x, if_neg (by simp), join_two]
      simp
/- A name's line so far: its word, the name, the sign, so many of its list. -/
def nmAt (W : List UInt8) (n : Nm) (j : Nat) : List UInt8 := W ++ 32 :: n.name.data.toList ++ [32, 61] ++ tailW ((n.list.take j).map fun s => s.data.toList)
theorem nmAt_succ {W : List UInt8} {n : Nm} {j : Nat} {s : ByteArray} (h : n.list[j]? = some s) : nmAt W n (j + 1) = nmAt W n j ++ 32 :: s.data.toList := by
  obtain ⟨hj, e⟩ := List.getElem?_eq_some_iff.1 h
  unfold nmAt
  rw [List.take_succ_eq_append_getElem hj, e, List.map_append, List.map_singleton, tailW_snoc, ← List.append_assoc]
theorem nmAt_all {W : List UInt8} {n : Nm} {j : Nat} (h : n.list.length ≤ j) : nmAt W n j = Lib.join (nmT W n) [32] := by
  unfold nmAt nmT
  rw [List.take_of_length_le h, List.cons_append, join_tail]
  unfold tailW
  simp
theorem hs_join (x : Hs) : Lib.join (hsT x) [32] = W_host.data.toList ++ 32 :: x.name.data.toList ++ [32, 61, 32] ++ ptext x.net := by
  unfold hsT
  rw [join_tail]
  unfold tailW
  simp
/- An accept's line so far. -/
def acP (a : Ac) (k : Nat) : List UInt8 := W_accept.data.toList ++ 32 :: (if a.protos = [] then W_any.data.toList else Lib.join ((a.protos.take k).map protoT) [44])
def acS (a : Ac) (k : Nat) : List UInt8 := acP a a.protos.length ++ 32 :: W_from.data.toList ++ tailW ((a.src.take k).map selT)
def acD (a : Ac) (k : Nat) : List UInt8 := acS a a.src.length ++ 32 :: W_to.data.toList ++ tailW ((a.dst.take k).map selT)
def acO (a : Ac) (k : Nat) : List UInt8 := acD a a.dst.length ++ (if k = 0 then [] else 32 :: W_ports.data.toList) ++ tailW ((a.ports.take k).map portT)
theorem acP_zero {a : Ac} (h : a.protos = []) (k : Nat) : acP a k = W_accept.data.toList ++ 32 :: W_any.data.toList := by unfold acP; rw [if_pos h]
theorem acP_start {a : Ac} (h : a.protos ≠ []) : acP a 0 = W_accept.data.toList ++ [32] := by unfold acP; rw [if_neg h]; simp [Lib.join]
theorem acP_succ {a : Ac} {k x : Nat} (h : a.protos[k]? = some x) : acP a (k + 1) = acP a k ++ (if k = 0 then [] else [44]) ++ protoT x := by
  obtain ⟨hk, e⟩ := List.getElem?_eq_some_iff.1 h
  have hne : a.protos ≠ [] := fun e => by rw [e] at hk; simp at hk
  unfold acP
  rw [if_neg hne, if_neg hne, List.take_succ_eq_append_getElem hk, e, List.map_append, List.map_singleton, join_snoc]
  have : (List.map protoT (a.protos.take k) = []) ↔ k = 0 := by
    rw [List.map_eq_nil_iff, List.take_eq_nil_iff]
    constructor
    · intro h
      rcases h with h | h
      · exact h
      · exact absurd h hne
    · intro h; exact Or.inl h
  by_cases hk0 : k = 0
  · rw [if_pos (this.2 hk0), if_pos hk0]; simp
  · rw [if_neg (fun e => hk0 (this.1 e)), if_neg hk0]; simp
theorem acS_zero (a : Ac) : acS a 0 = acP a a.protos.length ++ 32 :: W_from.data.toList := by unfold acS tailW; simp
theorem acS_succ {a : Ac} {k : Nat} {s : Sel} (h : a.src[k]? = some s) : acS a (k + 1) = acS a k ++ 32 :: selT s := by
  obtain ⟨hk, e⟩ := List.getElem?_eq_some_iff.1 h
  unfold acS
  rw [List.take_succ_eq_append_getElem hk, e, List.map_append, List.map_singleton, tailW_snoc, ← List.append_assoc]
theorem acD_zero (a : Ac) : acD a 0 = acS a a.src.length ++ 32 :: W_to.data.toList := by unfold acD tailW; simp
theorem acD_succ {a : Ac} {k : Nat} {s : Sel} (h : a.dst[k]? = some s) : acD a (k + 1) = acD a k ++ 32 :: selT s := by
  obtain ⟨hk, e⟩ := List.getElem?_eq_some_iff.1 h
  unfold acD
  rw [List.take_succ_eq_append_getElem hk, e, List.map_append, List.map_singleton, tailW_snoc, ← List.append_assoc]
theorem acO_zero (a : Ac) : acO a 0 = acD a a.dst.length := by unfold acO tailW; simp
theorem acO_succ {a : Ac} {k : Nat} {x : Nat × Nat} (h : a.ports[k]? = some x) : acO a (k + 1) = acO a k ++ (if k = 0 then 32 :: W_ports.data.toList else []) ++ 32 :: portT x := by
  obtain ⟨hk, e⟩ := List.getElem?_eq_some_iff.1 h
  unfold acO
  rw [List.take_succ_eq_append_getElem hk, e, List.map_append, List.map_singleton, tailW_snoc, if_neg (by omega)]
  by_cases hk0 : k = 0
  · subst hk0; unfold tailW; simp
  · rw [if_neg hk0, if_neg hk0]; simp
theorem acO_all (a : Ac) : acO a a.ports.length = Lib.join (aclT a) [32] := by
  unfold acO acD acS acP aclT
  rw [List.cons_append, List.cons_append, List.cons_append, List.cons_append, join_tail]
  simp only [List.take_length]
  have e : (if a.protos = [] then W_any.data.toList else Lib.join (a.protos.map protoT) [44]) = (if a.protos = [] then W_any.data.toList else Lib.join (List.map protoT a.protos) [44]) := rfl
  by_cases hp : a.ports = []
  · rw [hp]
    unfold tailW
    simp
  · have hl : a.ports.length ≠ 0 := fun e => hp (List.eq_nil_of_length_eq_zero e)
    rw [if_neg hl, if_neg hp]
    unfold tailW
    simp
end Go.Proofs.YtbiglifngfgffaaGreatDoor

/- A selector as a word, as the document says (text): the walk. -/
namespace Go.Proofs.YtbiglifngfgffaaGreatDoor
open Go.RowKit
attribute [local go_sem ↓] Go.wp_at_zero Go.wp_at_succ

theorem kindN_top (k : List UInt8) : kindN k ≤ 6 := by
  unfold kindN
  split
  · decide
  split
  · decide
  split
  · decide
  split
  · decide
  split <;> decide
theorem kind_ok {s : Sel} (h : selP (ofL (selT s)) = some s) : 1 ≤ s.kind ∧ s.kind ≤ 6 := by
  cases selP_is h with
  | star h1 h2 => rw [h2]; exact ⟨by decide, by decide⟩
  | named k nm h0 h1 h2 h3 h4 => rw [h4]; exact ⟨h2, kindN_top k⟩
  | net k t n h0 h1 h2 h3 => rw [h3]; exact ⟨(by show (1 : Nat) ≤ 6; decide), (by show (6 : Nat) ≤ 6; decide)⟩

set_option maxHeartbeats 8000000 in
set_option maxRecDepth 100000 in
theorem rselText_any {w : World} (env : Env w) (s : Sel) (ok : s.net.Ok) (hs : s.name.size ≤ 2000000) (hk : 1 ≤ s.kind ∧ s.kind ≤ 6) : Calls Tryz.prog 111 #[.agg #[.int .u8 (s.kind : Int), .string s.name, .bool s.net.a.v6, .int .u64 (s.net.a.hi : Int), .int .u64 (s.net.a.lo : Int), .int .u8 (s.net.bits : Int)]] w (Got (.string (selTB s)) w) := by
  have hpt := fun v (hv : Below w.heap.size w v) => rprefixText_any (env.below hv) s.net ok
  have hps := ptextB_size s.net ok
  have hT : ∀ k, selTB ⟨k, s.name, s.net⟩ = if k = 1 then ⟨#[42]⟩ else if k = 2 then ⟨#[117, 115, 101, 114, 58]⟩ ++ s.name else if k = 3 then ⟨#[103, 114, 111, 117, 112, 58]⟩ ++ s.name else if k = 4 then ⟨#[116, 97, 103, 58]⟩ ++ s.name else if k = 5 then ⟨#[104, 111, 115, 116, 58]⟩ ++ s.name else if k = 6 then ⟨#[110, 101, 116, 58]⟩ ++ ptextB s.net else ⟨#[]⟩ := by
    intro k
    unfold selTB selT ptextB
    simp only
    split
    · rfl
    split
    · apply ByteArray.ext; simp [ofL, W_user]
    split
    · apply ByteArray.ext; simp [ofL, W_group]
    split
    · apply ByteArray.ext; simp [ofL, W_tag]
    split
    · apply ByteArray.ext; simp [ofL, W_host]
    split
    · apply ByteArray.ext; simp [ofL, W_net]
    · rfl
  generalize ptextB s.net = PT at hpt hps hT
  obtain ⟨k, nm, pf⟩ := s
  have hTk := hT k
  unfold Pf.cells at hpt
  obtain ⟨⟨v6, hi, lo⟩, bits⟩ := pf
  simp only at hpt hTk hs hk ⊢
  have hB0 := Blk.new w 59 #[.int .u8 (k : Int), .string nm, .bool v6, .int .u64 (hi : Int), .int .u64 (lo : Int), .int .u8 (bits : Int)]
  have hb0 := boxed w (.cells #[.int .u8 (k : Int), .string nm, .bool v6, .int .u64 (hi : Int), .int .u64 (lo : Int), .int .u8 (bits : Int)] 59)
  generalize selTB ⟨k, nm, ⟨⟨v6, hi, lo⟩, bits⟩⟩ = OUT at hTk ⊢
  have HT := Lib.hid hTk
  have HPT := Lib.hid (hpt _ hb0)
  have Hb0 := Lib.hid hb0
  have x0 := hB0.cell 0
  have x1 := hB0.cell 1
  have x2 := hB0.cell 2
  have x3 := hB0.cell 3
  have x4 := hB0.cell 4
  have x5 := hB0.cell 5
  simp at x0 x1 x2 x3 x4 x5
  have z5 : ¬ 9223372036854775807 < 5 + nm.size := by omega
  have z6 : ¬ 9223372036854775807 < 6 + nm.size := by omega
  have z4 : ¬ 9223372036854775807 < 4 + nm.size := by omega
  have zp : ¬ 9223372036854775807 < 4 + PT.size := by omega
  clear hTk hT hpt hb0 hB0 env ok hs hps
  by_cases k1 : k = 1
  case pos =>
    have q2 : ((k : Int) == 2) = false := by simp; omega
    have q3 : ((k : Int) == 3) = false := by simp; omega
    have q4 : ((k : Int) == 4) = false := by simp; omega
    have q5 : ((k : Int) == 5) = false := by simp; omega
    have q6 : ((k : Int) == 6) = false := by simp; omega
    have hO := HT.out
    rw [if_pos k1] at hO
    have HO := Lib.hid hO
    clear hO HT k1
    go_enter Tryz.func111, Tryz.ntmps111
    go_wp2_with fail
    go_ret
    exact ⟨by rw [HO.out]; rfl, Hb0.out⟩
  by_cases k2 : k = 2
  case pos =>
    have e2 : ((k : Int) == 2) = true := by simp; omega
    have hO := HT.out
    rw [if_neg k1, if_pos k2] at hO
    have HO := Lib.hid hO
    clear hO HT k2
    go_enter Tryz.func111, Tryz.ntmps111
    go_wp2_with (go_at_call 69; (with_reducible refine HPT.out.mono ?_); rintro r w2 ⟨rfl, d2⟩)
    go_ret
    exact ⟨by rw [HO.out]; rfl, Hb0.out⟩
  have q2 : ((k : Int) == 2) = false := by simp; omega
  by_cases k3 : k = 3
  case pos =>
    have e3 : ((k : Int) == 3) = true := by simp; omega
    have hO := HT.out
    rw [if_neg k1, if_neg k2, if_pos k3] at hO
    have HO := Lib.hid hO
    clear hO HT k3
    go_enter Tryz.func111, Tryz.ntmps111
    go_wp2_with (go_at_call 69; (with_reducible refine HPT.out.mono ?_); rintro r w2 ⟨rfl, d2⟩)
    go_ret
    exact ⟨by rw [HO.out]; rfl, Hb0.out⟩
  have q3 : ((k : Int) == 3) = false := by simp; omega
  by_cases k4 : k = 4
  case pos =>
    have e4 : ((k : Int) == 4) = true := by simp; omega
    have hO := HT.out
    rw [if_neg k1, if_neg k2, if_neg k3, if_pos k4] at hO
    have HO := Lib.hid hO
    clear hO HT k4
    go_enter Tryz.func111, Tryz.ntmps111
    go_wp2_with (go_at_call 69; (with_reducible refine HPT.out.mono ?_); rintro r w2 ⟨rfl, d2⟩)
    go_ret
    exact ⟨by rw [HO.out]; rfl, Hb0.out⟩
  have q4 : ((k : Int) == 4) = false := by simp; omega
  by_cases k5 : k = 5
  case pos =>
    have e5 : ((k : Int) == 5) = true := by simp; omega
    have hO := HT.out
    rw [if_neg k1, if_neg k2, if_neg k3, if_neg k4, if_pos k5] at hO
    have HO := Lib.hid hO
    clear hO HT k5
    go_enter Tryz.func111, Tryz.ntmps111
    go_wp2_with (go_at_call 69; (with_reducible refine HPT.out.mono ?_); rintro r w2 ⟨rfl, d2⟩)
    go_ret
    exact ⟨by rw [HO.out]; rfl, Hb0.out⟩
  have q5 : ((k : Int) == 5) = false := by simp; omega
  by_cases k6 : k = 6
  case pos =>
    have e6 : ((k : Int) == 6) = true := by simp; omega
    have hO := HT.out
    rw [if_neg k1, if_neg k2, if_neg k3, if_neg k4, if_neg k5, if_pos k6] at hO
    have HO := Lib.hid hO
    clear hO HT k6
    go_enter Tryz.func111, Tryz.ntmps111
    go_wp2_with (go_at_call 69; (with_reducible refine HPT.out.mono ?_); rintro r w2 ⟨rfl, d2⟩)
    go_ret
    exact ⟨by rw [HO.out]; rfl, (after Hb0.out d2)⟩
  have q6 : ((k : Int) == 6) = false := by simp; omega
  omega
end Go.Proofs.YtbiglifngfgffaaGreatDoor
