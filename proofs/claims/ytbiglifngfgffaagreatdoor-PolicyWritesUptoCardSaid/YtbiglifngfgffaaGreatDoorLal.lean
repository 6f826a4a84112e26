/- Joined out of: PlO. -/
import Derived.Test.YtbiglifngfgffaaGreatDoorLaa
import Derived.Test.YtbiglifngfgffaaGreatDoorLak
set_option linter.unusedVariables false
set_option linter.unusedSimpArgs false

/- Selectors, up to a word that ends them (sels): the walk. -/
namespace Go.Proofs.YtbiglifngfgffaaGreatDoor
open Go.RowKit
attribute [local go_sem ↓] Go.wp_at_zero Go.wp_at_succ

abbrev SelRes := Except Bad (List (Sel × Nat) × List ByteArray)
def selsT (en : ByteArray) (ws : List ByteArray) (k : Nat) (acc : List (Sel × Nat)) : SelRes := (selsGo en (ws.drop k) k acc.length).map fun x => (acc ++ x.1, x.2)
theorem selsT_zero (en : ByteArray) (ws : List ByteArray) (k : Nat) : selsT en ws k [] = selsGo en (ws.drop k) k 0 := by
  unfold selsT
  simp only [List.length_nil, List.nil_append]
  cases selsGo en (ws.drop k) k 0 <;> rfl
theorem selsT_none {en : ByteArray} {ws : List ByteArray} {k : Nat} (h : k = ws.length) : selsT en ws k [] = .error (190, ws.length) := by
  subst h
  unfold selsT
  rw [List.drop_eq_nil_of_le (Nat.le_refl _)]
  rfl
theorem selsT_stop {en s : ByteArray} {ws : List ByteArray} {k : Nat} {acc : List (Sel × Nat)} (h : ws[k]? = some s) (he : s = en) (ha : acc ≠ []) : selsT en ws k acc = .ok (acc, ws.drop k) := by
  have hk : k < ws.length := (List.getElem?_eq_some_iff.1 h).1
  have hg : ws[k] = s := (List.getElem?_eq_some_iff.1 h).2
  unfold selsT
  rw [List.drop_eq_getElem_cons hk, hg]
  unfold selsGo
  rw [if_pos ⟨he, fun e => ha (List.eq_nil_of_length_eq_zero e)⟩]
  simp [Except.map]
theorem selsT_step {en s : ByteArray} {ws : List ByteArray} {k : Nat} {acc : List (Sel × Nat)} (h : ws[k]? = some s) (hn : ¬ (s = en ∧ acc ≠ [])) : selsT en ws k acc = match selP s with
    | none => .error (195, k)
    | some x => if 64 ≤ acc.length then .error (198, k) else selsT en ws (k + 1) (acc ++ [(x, k)]) := by
  have hk : k < ws.length := (List.getElem?_eq_some_iff.1 h).1
  have hg : ws[k] = s := (List.getElem?_eq_some_iff.1 h).2
  unfold selsT
  rw [List.drop_eq_getElem_cons hk, hg]
  conv => lhs; unfold selsGo
  rw [if_neg (fun e => hn ⟨e.1, fun e2 => e.2 (by rw [e2]; rfl)⟩)]
  cases selP s with
  | none => rfl
  | some x =>
    simp only
    by_cases h2 : 64 ≤ acc.length
    · rw [if_pos h2, if_pos h2]; rfl
    rw [if_neg h2, if_neg h2, List.length_append, List.length_singleton]
    cases selsGo en (List.drop (k + 1) ws) (k + 1) (acc.length + 1) with
    | error e => rfl
    | ok l => simp [Except.map]
theorem selsT_end {en : ByteArray} {ws : List ByteArray} {k : Nat} {acc : List (Sel × Nat)} (h : ws.length ≤ k) (ha : acc ≠ []) : selsT en ws k acc = .ok (acc, []) := by
  unfold selsT
  rw [List.drop_eq_nil_of_le h]
  unfold selsGo
  rw [if_neg (fun e => ha (List.eq_nil_of_length_eq_zero e))]
  simp [Except.map]

def usOf (n : Nat) (l : List (Sel × Nat)) : List Us := l.map fun y => (y.1, n, y.2)
def SelsOk (w0 w : World) (b P n : Nat) (lv uv : Value) (ws : List ByteArray) (us : List Us) (w' : World) (x : List (Sel × Nat) × List ByteArray) (r : Ending) : Prop :=
  ∃ v uv', r = .returned v ∧ w'.ownsRow w.heap.size 59 6 v x.1.length (selCells (x.1.map (·.1))) ∧ Rs w' b P (ws.length - x.2.length) n lv uv' ws ∧ UsRow w' w0.heap.size uv' (us ++ usOf n x.1) ∧ (∀ g, uv'.ownBlock = some g → uv.ownBlock = some g ∨ w.heap.size ≤ g) ∧ x.1.length ≤ 64
theorem Rs.cell3 {w : World} {b P k n : Nat} {lv uv : Value} {ws : List ByteArray} (h : Rs w b P k n lv uv ws) : w.cell? ⟨b, 0, none⟩ = some lv ∧ w.cell? ⟨b, 1, none⟩ = some (.int .i64 (k : Int)) ∧ w.cell? ⟨b, 3, none⟩ = some uv := by
  have c0 := h.blk.cell 0
  have c1 := h.blk.cell 1
  have c3 := h.blk.cell 3
  simp at c0 c1 c3
  exact ⟨c0, c1, c3⟩
theorem UsRow.nreader {w : World} {base b P k n : Nat} {lv uv : Value} {ws : List ByteArray} {us : List Us} (h : UsRow w base uv us) (hr : Rs w b P k n lv uv ws) : ∀ g, uv.ownBlock = some g → g ≠ b := by
  intro g hg e
  obtain ⟨xs, _, ho⟩ := h
  obtain ⟨cur, e2, fz, hh, hT⟩ := ownOff ho g hg
  have := hr.blk
  unfold RdB Blk at this
  rw [← e, hh] at this
  injection this with this
  injection this with _ h2 _
  rw [List.mem_singleton.1 hT] at h2
  exact absurd h2 (by decide)

theorem Rs.word {w : World} {b P k n g cap j : Nat} {uv : Value} {ws : List ByteArray} {s : ByteArray} (h : Rs w b P k n (.slice (some ⟨g, 0, none⟩) ws.length cap) uv ws) (hs : ws[j]? = some s) : w.cell? ⟨g, j * 3, none⟩ = some (.string s) ∧ w.cell? ⟨g, j * 3 + 1, none⟩ = some (.int .i64 (n : Int)) ∧ w.cell? ⟨g, j * 3 + 2, none⟩ = some (.int .i64 (j : Int)) := by
  obtain ⟨g', cap', e, _, _, hc⟩ := h.row.shape h.ne
  injection e with e1 _ _
  injection e1 with e1
  injection e1 with e1 _ _
  subst e1
  obtain ⟨v0, v1, v2⟩ := wcells_at n ws 0 j s hs
  rw [Nat.zero_add] at v2
  have hj : j < ws.length := (List.getElem?_eq_some_iff.1 hs).1
  exact ⟨(hc _ (by omega)).trans v0, (hc _ (by omega)).trans v1, (hc _ (by omega)).trans v2⟩
theorem UsRow.below {w w' : World} {base : Nat} {v : Value} {l : List Us} (h : UsRow w base v l) (hb : Below w.heap.size w w') : UsRow w' base v l := by
  obtain ⟨xs, e, ha⟩ := h
  exact ⟨xs, e, own_below ha hb⟩
theorem UsRow.off {S : Nat → Prop} {w w' : World} {T : List TypeId} {base : Nat} {v : Value} {l : List Us} (h : UsRow w base v l) (hk : Keeps S w w') (ho : Off S w T) (he : 91 ∉ T) : UsRow w' base v l := by
  obtain ⟨xs, e, ha⟩ := h
  exact ⟨xs, e, own_off ha hk ho he⟩
theorem sel_none {w : World} {s : ByteArray} (h : Calls Tryz.prog 116 #[.string s] w (SelGot none w)) : Calls Tryz.prog 116 #[.string s] w fun r w' => (∃ (k : Nat) (nm : ByteArray) (v6 : Bool) (hi lo bits : Nat), r = .returned (.tuple #[.agg #[.int .u8 (k : Int), .string nm, .bool v6, .int .u64 (hi : Int), .int .u64 (lo : Int), .int .u8 (bits : Int)], .bool false])) ∧ Below w.heap.size w w' :=
  h.mono fun r w' ⟨⟨s, h1, _⟩, h2⟩ => ⟨⟨s.kind, s.name, s.net.a.v6, s.net.a.hi, s.net.a.lo, s.net.bits, h1⟩, h2⟩
theorem sel_some {w : World} {s : ByteArray} {x : Sel} (h : Calls Tryz.prog 116 #[.string s] w (SelGot (some x) w)) : Calls Tryz.prog 116 #[.string s] w (Got (.tuple #[.agg #[.int .u8 (x.kind : Int), .string x.name, .bool x.net.a.v6, .int .u64 (x.net.a.hi : Int), .int .u64 (x.net.a.lo : Int), .int .u8 (x.net.bits : Int)], .bool true]) w) :=
  h.mono fun r w' ⟨⟨s, h1, h3⟩, h2⟩ => by obtain rfl := h3 _ rfl; exact ⟨h1, h2⟩

set_option maxHeartbeats 8000000 in
set_option maxRecDepth 100000 in
theorem sels_any {w0 w : World} (env : Env w0) (hE : Below w0.heap.size w0 w) {b P k n : Nat} {lv uv : Value} {ws : List ByteArray} {us : List Us} (h : Rs w b P k n lv uv ws) (hu : UsRow w w0.heap.size uv us) (hk : k ≤ ws.length) (hus : us.length ≤ 4000000) (hbb : w0.heap.size ≤ b) (en : ByteArray) :
    Calls Tryz.prog 97 #[.pointer (some ⟨b, 0, none⟩), .string en] w fun r w' => Keeps (fun x => x = b ∨ uv.ownBlock = some x) w w' ∧ LineR (selsGo en (ws.drop k) k 0) n (SelsOk w0 w b P n lv uv ws us w') r := by
  obtain ⟨RES, hRES⟩ : ∃ r, r = selsGo en (ws.drop k) k 0 := ⟨_, rfl⟩
  rw [← hRES]
  rw [← selsT_zero] at hRES
  obtain ⟨i0, hi, hz0, hz1, hz2⟩ := info_parts info_sel
  obtain ⟨j0, hj, hj0, hj1, hj2⟩ := info_parts info_us
  have hbs : w0.heap.size ≤ w.heap.size := hE.size
  have hUB : ∀ g, uv.ownBlock = some g → w0.heap.size ≤ g ∧ g < w.heap.size := by
    obtain ⟨xs, _, ho⟩ := hu
    exact fun g hg => ho.lt g hg
  have HUB := Lib.hid hUB
  have H := Lib.hid h
  have HU := Lib.hid hu
  have HRES := Lib.hid hRES
  have HE := Lib.hid hE
  have HEnv := Lib.hid env
  have HWl := Lib.hid h.len
  clear h hu hRES hE env hUB
  go_enter Tryz.func97, Tryz.ntmps97
  go_wp2_with fail
  go_loopw [4] (fun v4 wr => ∃ (k' : Nat) (acc : List (Sel × Nat)) (A : Option Addr) (cap : Nat) (uv' : Value), v4 = .slice A acc.length cap ∧ k' ≤ ws.length ∧ RowKit.Hid (acc ≠ [] → k' < ws.length) ∧ acc.length ≤ 64 ∧ RowKit.Hid (Rs wr b P k' n lv uv' ws) ∧ RowKit.Hid (Keeps (fun x => x = b ∨ uv.ownBlock = some x) w wr) ∧ RowKit.Hid (wr.ownsRow w.heap.size 59 6 (.slice A acc.length cap) acc.length (selCells (acc.map (·.1)))) ∧ RowKit.Hid (UsRow wr w0.heap.size uv' (us ++ usOf n acc)) ∧ RowKit.Hid (∀ g, uv'.ownBlock = some g → uv.ownBlock = some g ∨ w.heap.size ≤ g) ∧ RowKit.Hid (RES = selsT en ws k' acc)) (fun _ wr => ws.length + 1 - nextOf wr b)
  case atStart => exact ⟨k, [], none, 0, uv, rfl, hk, Lib.hid fun h => absurd rfl h, by simp, H, Lib.hid (Keeps.refl _ _), Lib.hid (World.ownsRow_nil _ _ _ _), Lib.hid (by unfold usOf; simpa using HU.out), Lib.hid fun g hg => Or.inl hg, HRES⟩
  case round =>
    obtain ⟨k', acc, A, cap, uv', rfl, hk', hak, hal, hrs, hkp, hown, huv, hub, hres⟩ := hrel
    have Hnx := Lib.hid hrs.out.next
    have htake := hrs.out.take hk'
    unfold TakeR at htake
    have HTake := Lib.hid htake
    obtain ⟨L, hL⟩ : ∃ l, l = acc.length := ⟨_, rfl⟩
    rw [← hL] at hown hal ⊢
    have HL := Lib.hid hL
    clear htake hL
    go_wp2_with fail
    go_at_call 29
    refine HTake.out.mono ?_
    rintro r w2 ⟨⟨d2, e2⟩, h2⟩
    cases hs : ws[k']? with
    | none =>
      have hge : ws.length ≤ k' := by rw [List.getElem?_eq_none_iff] at hs; exact hs
      rw [hs] at h2
      simp only at h2
      subst h2
      unfold PanicAt
      have ha : acc = [] := Classical.byContradiction fun e => absurd (hak.out e) (by omega)
      exact ⟨rfl, hkp.out.trans (d2.mono fun k _ hk => Or.inl hk), LineR.bad (by rw [hres.out, ha]; exact selsT_none (by omega))⟩
    | some wd =>
    rw [hs] at h2
    simp only at h2
    subst h2
    have hlt : k' < ws.length := (List.getElem?_eq_some_iff.1 hs).1
    have RS2 := Lib.hid e2
    have OB : Off (fun x => x = b) wr [81] := fun k hk => ⟨_, _, _, by subst hk; exact hrs.out.blk, by simp⟩
    have OW2 := Lib.hid (own_off hown.out d2 OB (by decide))
    have US2 := Lib.hid (huv.out.keep d2 (huv.out.nreader hrs.out))
    have KP2 := Lib.hid (hkp.out.trans (d2.mono (T := fun x => x = b ∨ uv.ownBlock = some x) fun k _ hk => Or.inl hk))
    clear HTake hrs hown huv hkp d2 e2 OB
    by_cases hstop : wd = en ∧ acc ≠ []
    · obtain ⟨rfl, hne⟩ := hstop
      have hR := hres.out
      rw [selsT_stop hs rfl hne] at hR
      have HR := Lib.hid hR
      have hL0 : 0 < L := by
        have := HL.out
        cases acc with
        | nil => exact absurd rfl hne
        | cons x r => simp at this; omega
      have q1 : (0 : Int) < (L : Int) := by omega
      have q2 : (wd.toList == wd.toList) = true := by simp
      have c1 := RS2.out.cell3.2.1
      have z1 := RS2.out.blk.frozen 1
      have hkb : (k' : Int) ≤ 2000000 := by have := HWl.out; omega
      clear hR hres hne hs
      rw [show ((k' + 1 : Nat) : Int) = (k' : Int) + 1 by omega] at c1
      go_wp2_with fail
      have KS := (Keeps.refl (fun x => x = b) w2).setCell (p := ⟨b, 1, none⟩) (Or.inl rfl) (.int .i64 (k' : Int))
      have OS : Off (fun x => x = b) w2 [81] := fun k hk => ⟨_, _, _, by subst hk; exact RS2.out.blk, by simp⟩
      have RB : RdB (w2.setCell ⟨b, 1, none⟩ (.int .i64 (k' : Int))) b lv k' P uv' := RS2.out.blk.set_ 1 (.int .i64 (k' : Int))
      have RS3 := RS2.out.step KS RB
      refine bodyPost_ret (results_tmp rfl _ _ _) rfl ⟨KP2.out.trans (KS.mono fun k _ hk => Or.inl hk), LineR.good HR.out ⟨_, uv', rfl, ?_, ?_, US2.out.keep KS (US2.out.nreader RS2.out), hub.out, by rw [← HL.out]; exact hal⟩⟩
      · simp only
        rw [← HL.out]
        exact own_off OW2.out KS OS (by decide)
      · simp only [List.length_drop]
        rw [show ws.length - (ws.length - k') = k' by omega]
        exact RS3
    · have hR := hres.out
      rw [selsT_step hs hstop] at hR
      have HR := Lib.hid hR
      have hwd : wd.size ≤ 2000000 := RS2.out.sizes wd (List.mem_of_getElem? hs)
      have hE2 := below_keeps HE.out KP2.out (fun k hk => hk.elim (fun e => by subst e; exact hbb) fun e => (HUB.out k e).1)
      have hsel := sel_any (HEnv.out.below hE2) wd hwd
      have Hs := Lib.hid hs
      clear hR hres hs hE2
      have hcond : ((wd.toList == en.toList) = true ∧ (0 : Int) < (L : Int)) → False := fun h => hstop ⟨by
          have := h.1
          rw [beq_iff_eq, ByteArray.toList_eq, ByteArray.toList_eq] at this
          exact ByteArray.ext (Array.ext' this), fun e => by have := HL.out; rw [e] at this; simp at this; omega⟩
      clear hstop
      obtain ⟨o, ho⟩ : ∃ o, o = selP wd := ⟨_, rfl⟩
      rw [← ho] at hsel HR
      have Ho := Lib.hid ho
      clear ho
      cases hb : (wd.toList == en.toList) with
      | true =>
        have hL0 : ¬ (0 : Int) < (L : Int) := fun h => hcond ⟨hb, h⟩
        clear hcond
        cases o with
        | none =>
          have HSel := Lib.hid (sel_none hsel)
          clear hsel
          have hR := HR.out
          simp only at hR
          have HRn := Lib.hid hR
          clear hR HR
          go_upto_region 6 with (go_at_call 116; (with_reducible refine HSel.out.mono ?_); rintro r w3 ⟨⟨x1, x2, x3, x4, x5, x6, rfl⟩, d3⟩)
          have d4 := after d3 (boxed w3 (.cells #[.int .u8 (x1 : Int), .string x2, .bool x3, .int .u64 (x4 : Int), .int .u64 (x5 : Int), .int .u8 (x6 : Int)] 59))
          generalize w3.alloc (.cells #[.int .u8 (x1 : Int), .string x2, .bool x3, .int .u64 (x4 : Int), .int .u64 (x5 : Int), .int .u8 (x6 : Int)] 59) = w4 at d4 ⊢
          have RS4 := Lib.hid (RS2.out.below d4)
          have KP4 := Lib.hid (KP2.out.trans (Keeps.of_below d4 fun k hk _ => hk))
          clear RS2 KP2
          clear d4 d3 HSel
          have hun := RS4.out.unless (by omega) (by omega) false 195
          rw [atW_take hlt] at hun
          have HUn : RowKit.Hid (Calls Tryz.prog 30 #[.pointer (some ⟨b, 0, none⟩), .bool false, .int .i64 195] w4 fun r w' => r = PanicAt 195 n k' ∧ Below w4.heap.size w4 w') := Lib.hid hun
          clear hun
          go_wp2_with (go_at_call 30; (with_reducible refine HUn.out.mono ?_); rintro r w5 ⟨rfl, d5⟩; unfold PanicAt)
          exact ⟨rfl, KP4.out.trans (Keeps.of_below d5 fun k hk _ => hk), LineR.bad HRn.out⟩
        | some X =>
          have hR := HR.out
          simp only at hR
          obtain ⟨x1, x2, ⟨⟨x3, x4, x5⟩, x6⟩⟩ := X
          have HSel : RowKit.Hid (Calls Tryz.prog 116 #[.string wd] w2 (Got (.tuple #[.agg #[.int .u8 (x1 : Int), .string x2, .bool x3, .int .u64 (x4 : Int), .int .u64 (x5 : Int), .int .u8 (x6 : Int)], .bool true]) w2)) := Lib.hid (sel_some hsel)
          clear hsel
          have HRn := Lib.hid hR
          clear hR HR
          go_upto_region 6 with (go_at_call 116; (with_reducible refine HSel.out.mono ?_); rintro r w3 ⟨rfl, d3⟩)
          have d4 := after d3 (boxed w3 (.cells #[.int .u8 (x1 : Int), .string x2, .bool x3, .int .u64 (x4 : Int), .int .u64 (x5 : Int), .int .u8 (x6 : Int)] 59))
          have M4 := Lib.hid (Blk.new w3 59 #[.int .u8 (x1 : Int), .string x2, .bool x3, .int .u64 (x4 : Int), .int .u64 (x5 : Int), .int .u8 (x6 : Int)])
          have hM3 := d3.size
          generalize w3.alloc (.cells #[.int .u8 (x1 : Int), .string x2, .bool x3, .int .u64 (x4 : Int), .int .u64 (x5 : Int), .int .u8 (x6 : Int)] 59) = w4 at d4 M4 ⊢
          generalize w3.heap.size = M at hM3 M4 ⊢
          have hOM : ∀ g, (Value.slice A L cap).ownBlock = some g → g < M := fun g hg => by have := (OW2.out.lt g hg).2; omega
          have HOM := Lib.hid hOM
          have RS4 := Lib.hid (RS2.out.below d4)
          have OW4 := Lib.hid (own_below OW2.out d4)
          have US4 := Lib.hid (US2.out.below d4)
          have KP4 := Lib.hid (KP2.out.trans (Keeps.of_below d4 fun k hk _ => hk))
          clear RS2 OW2 US2 KP2
          clear d4 d3 HSel hOM
          have hun := RS4.out.unless (by omega) (by omega) true 195
          have HUn : RowKit.Hid (Calls Tryz.prog 30 #[.pointer (some ⟨b, 0, none⟩), .bool true, .int .i64 195] w4 fun r w' => r = .returned (.tuple #[]) ∧ Below w4.heap.size w4 w') := Lib.hid hun
          clear hun
          go_upto_region 7 with (go_at_call 30; (with_reducible refine HUn.out.mono ?_); rintro r w5 ⟨rfl, d5⟩)
          have RS5 := Lib.hid (RS4.out.below d5)
          have OW5 := Lib.hid (own_below OW4.out d5)
          have US5 := Lib.hid (US4.out.below d5)
          have KP5 := Lib.hid (KP4.out.trans (Keeps.of_below d5 fun k hk _ => hk))
          have M5 := Lib.hid (M4.out.below d5 M4.out.lt)
          clear RS4 OW4 US4 KP4 M4
          clear d5 HUn
          have hro := RS5.out.room (by omega) (by omega) L
          rw [atW_take hlt] at hro
          have HRo := Lib.hid hro
          clear hro
          by_cases h64 : 64 ≤ L
          · have hR := HRn.out
            rw [← HL.out, if_pos h64] at hR
            rw [decide_eq_false (by omega)] at HRo
            have HRoo : RowKit.Hid (Calls Tryz.prog 91 #[.pointer (some ⟨b, 0, none⟩), .int .i64 (L : Int)] w5 fun r w' => r = PanicAt 198 n k' ∧ Below w5.heap.size w5 w') := HRo
            have HRz := Lib.hid hR
            clear HRo hR HRn h64
            go_wp2_with (go_at_call 91; (with_reducible refine HRoo.out.mono ?_); rintro r w6 ⟨rfl, d6⟩; unfold PanicAt)
            exact ⟨rfl, KP5.out.trans (Keeps.of_below d6 fun k hk _ => hk), LineR.bad HRz.out⟩
          have hR := HRn.out
          rw [← HL.out, if_neg h64] at hR
          rw [decide_eq_true (by omega)] at HRo
          have HRoo : RowKit.Hid (Calls Tryz.prog 91 #[.pointer (some ⟨b, 0, none⟩), .int .i64 (L : Int)] w5 fun r w' => r = .returned (.tuple #[]) ∧ Below w5.heap.size w5 w') := HRo
          have HRz := Lib.hid hR
          clear HRo hR HRn
          go_upto_region 8 with (go_at_call 91; (with_reducible refine HRoo.out.mono ?_); rintro r w6 ⟨rfl, d6⟩)
          have RS6 := Lib.hid (RS5.out.below d6)
          have OW6 := Lib.hid (own_below OW5.out d6)
          have US6 := Lib.hid (US5.out.below d6)
          have KP6 := Lib.hid (KP5.out.trans (Keeps.of_below d6 fun k hk _ => hk))
          have M6 := Lib.hid (M5.out.below d6 M5.out.lt)
          clear RS5 OW5 US5 KP5 M5
          clear d6 HRoo
          have m0 := M6.out.cell 0
          have m1 := M6.out.cell 1
          have m2 := M6.out.cell 2
          have m3 := M6.out.cell 3
          have m4 := M6.out.cell 4
          have m5 := M6.out.cell 5
          simp at m0 m1 m2 m3 m4 m5
          have hwb := KP6.out.size
          go_upto_region 9 with (at_builtin; refine wpList_append_own _ rfl _ _ 54 rfl w.heap.size 59 i0 (.agg #[.int .u8 0, .string ⟨#[]⟩, .bool false, .int .u64 0, .int .u64 0, .int .u8 0]) 6 56 Tryz.underlying54 hi hz0 hz1 hz2 rfl (by decide) _ L _ rfl (OW6.out.alloc _) ⟨w6.heap.size, 0, none⟩ 1 1 [.int .u8 (x1 : Int), .string x2, .bool x3, .int .u64 (x4 : Int), .int .u64 (x5 : Int), .int .u8 (x6 : Int)] rfl rfl (cells_new w6 [.int .u8 (x1 : Int), .string x2, .bool x3, .int .u64 (x4 : Int), .int .u64 (x5 : Int), .int .u8 (x6 : Int)] 59) (by intro u hu; simp at hu; rcases hu with rfl | rfl | rfl | rfl | rfl | rfl <;> rfl) (by unfold maxLen; omega) (by omega) (by simp; omega) ?_; intro v' w7 hown' hgrow hnil)
          have HK7 := Keeps.row hgrow
          have HO7 := ownOff (OW6.out.alloc (.cells #[.int .u8 (x1 : Int), .string x2, .bool x3, .int .u64 (x4 : Int), .int .u64 (x5 : Int), .int .u8 (x6 : Int)] 59))
          have RS7 := Lib.hid ((RS6.out.alloc _).off HK7 HO7 (by decide) (by decide))
          have US7 := Lib.hid ((US6.out.below (boxed w6 _)).off HK7 HO7 (by decide))
          have M7 := Lib.hid ((M6.out.alloc _).grown hgrow (fun e => by have := HOM.out M e.symm; omega))
          have KP7 := Lib.hid (Keeps.grown (KP6.out.alloc _) hgrow fun k hk => Or.inr (OW6.out.lt k hk).1)
          obtain ⟨A2, cap2, rfl⟩ := own_shape hown'
          have OW7 := Lib.hid hown'
          have hwb7 : w.heap.size ≤ w7.heap.size := KP7.out.size
          clear HK7 HO7 hgrow hnil hown' RS6 US6 M6 KP6 OW6 HOM m0 m1 m2 m3 m4 m5 hwb
          obtain ⟨gw, capw, rfl, hcapw, ⟨curw, hgW⟩, hcw⟩ := RS7.out.row.shape RS7.out.ne
          obtain ⟨xs, hxs, hu9⟩ := US7.out
          obtain ⟨Au, capu, rfl⟩ := own_shape hu9
          obtain ⟨U, hU⟩ : ∃ U, U = (us ++ usOf n acc).length := ⟨_, rfl⟩
          rw [← hU] at hu9 hub
          have hU1 : U ≤ 4000100 := by rw [hU, List.length_append]; unfold usOf; rw [List.length_map]; have := HL.out; omega
          obtain ⟨c0, c1, c3⟩ := RS7.out.cell3
          rw [← hU] at c3
          obtain ⟨t0, t1, t2⟩ := RS7.out.word Hs.out
          have m0 := M7.out.cell 0
          have m1 := M7.out.cell 1
          have m2 := M7.out.cell 2
          have m3 := M7.out.cell 3
          have m4 := M7.out.cell 4
          have m5 := M7.out.cell 5
          simp at m0 m1 m2 m3 m4 m5
          have i1 : IntKind.i64.wrap (k' : Int) = (k' : Int) := by have := HWl.out; rw [IntKind.wrap_i64]; omega
          have i2 : (k' : Int) < (ws.length : Int) := by omega
          obtain ⟨w14, hw14⟩ : ∃ x, x = (w7.alloc (.cells #[.int .u8 (x1 : Int), .string x2, .bool x3, .int .u64 (x4 : Int), .int .u64 (x5 : Int), .int .u8 (x6 : Int), .string wd, .int .i64 (n : Int), .int .i64 (k' : Int)] 91)).drew := ⟨_, rfl⟩
          have HOX : RowKit.Hid (w14.ownsRow w0.heap.size 91 9 (.slice Au U capu) U (usCells xs)) := Lib.hid (by rw [hw14]; exact hu9.alloc _)
          have HNew : RowKit.Hid (∀ j u, [.int .u8 (x1 : Int), .string x2, .bool x3, .int .u64 (x4 : Int), .int .u64 (x5 : Int), .int .u8 (x6 : Int), .string wd, .int .i64 (n : Int), .int .i64 (k' : Int)][j]? = some u → w14.cell? ((⟨w7.heap.size, 0, none⟩ : Addr).add j) = some u) := Lib.hid (by rw [hw14]; exact cells_new w7 [.int .u8 (x1 : Int), .string x2, .bool x3, .int .u64 (x4 : Int), .int .u64 (x5 : Int), .int .u8 (x6 : Int), .string wd, .int .i64 (n : Int), .int .i64 (k' : Int)] 91)
          have HRd : RowKit.Hid (Rs w14 b P (k' + 1) n (.slice (some ⟨gw, 0, none⟩) ws.length capw) (.slice Au U capu) ws) := Lib.hid (by rw [hw14, hU]; exact ⟨(RS7.out.alloc _).blk, (RS7.out.alloc _).row, RS7.out.ne, RS7.out.len, RS7.out.sizes⟩)
          have HKd : RowKit.Hid (Keeps (fun x => x = b ∨ uv.ownBlock = some x) w w14) := Lib.hid (by rw [hw14]; exact (KP7.out.alloc _).drew)
          have HOWd : RowKit.Hid (w14.ownsRow w.heap.size 59 6 (.slice A2 (L + 1) cap2) (L + 1) _) := Lib.hid (by rw [hw14]; exact OW7.out.alloc _)
          have hs14 : w14.heap.size = w7.heap.size + 1 := by rw [hw14]; simp
          have hb8 : Below w7.heap.size w7 w14 := by rw [hw14]; have q := boxed w7 (.cells #[.int .u8 (x1 : Int), .string x2, .bool x3, .int .u64 (x4 : Int), .int .u64 (x5 : Int), .int .u8 (x6 : Int), .string wd, .int .i64 (n : Int), .int .i64 (k' : Int)] 91); exact ⟨q.os, q.tape, q.output, q.size, q.block⟩
          obtain ⟨d0, d1, d3⟩ := HRd.out.cell3
          obtain ⟨q0, q1, q2⟩ := HRd.out.word Hs.out
          have HMd := Lib.hid (M7.out.below hb8 M7.out.lt)
          have n0 := HMd.out.cell 0
          have n1 := HMd.out.cell 1
          have n2 := HMd.out.cell 2
          have n3 := HMd.out.cell 3
          have n4 := HMd.out.cell 4
          have n5 := HMd.out.cell 5
          simp at n0 n1 n2 n3 n4 n5
          have HXs := Lib.hid hxs
          have HU1 := Lib.hid hU
          clear hxs hu9 hU RS7 KP7 M7 OW7 hgW hcw hb8 US7
          rw [hw14] at HOX HNew d0 d1 d3 q0 q1 q2 n0 n1 n2 n3 n4 n5
          refine wp_region_E 22 (fun w' => w'.cell? ⟨b, 0, none⟩ = some (.slice (some ⟨gw, 0, none⟩) ws.length capw) ∧ w'.cell? ⟨b, 1, none⟩ = some (.int .i64 ((k' + 1 : Nat) : Int)) ∧ w'.cell? ⟨b, 3, none⟩ = some (.slice Au U capu) ∧ w'.cell? ⟨gw, k' * 3, none⟩ = some (.string wd) ∧ w'.cell? ⟨gw, k' * 3 + 1, none⟩ = some (.int .i64 (n : Int)) ∧ w'.cell? ⟨gw, k' * 3 + 2, none⟩ = some (.int .i64 (k' : Int)) ∧ w'.cell? ⟨M, 0, none⟩ = some (.int .u8 (x1 : Int)) ∧ w'.cell? ⟨M, 1, none⟩ = some (.string x2) ∧ w'.cell? ⟨M, 2, none⟩ = some (.bool x3) ∧ w'.cell? ⟨M, 3, none⟩ = some (.int .u64 (x4 : Int)) ∧ w'.cell? ⟨M, 4, none⟩ = some (.int .u64 (x5 : Int)) ∧ w'.cell? ⟨M, 5, none⟩ = some (.int .u8 (x6 : Int))) (by kernel_rfl) (⟨c0, c1, c3, t0, t1, t2, m0, m1, m2, m3, m4, m5⟩) (fun hHeld => ?_)
          refine tE 0 ?_; try simp only [Ap]
          refine tE 1 ?_; try simp only [Ap]
          refine tE 2 ?_; try simp only [Ap]
          refine tE 3 ?_; try simp only [Ap]
          refine tE 4 ?_; try simp only [Ap]
          refine tE 5 ?_; try simp only [Ap]
          refine tE 6 ?_; try simp only [Ap]
          refine tE 7 ?_; try simp only [Ap]
          refine tE 8 ?_; try simp only [Ap]
          refine tE 9 ?_; try simp only [Ap]
          refine tE 10 ?_; try simp only [Ap]
          refine tE 11 ?_; try simp only [Ap]
          refine tE 12 ?_; try simp only [Ap]
          refine tE 13 ?_; try simp only [Ap]
          refine tE 14 ?_; try simp only [Ap]
          refine tE 15 ?_; try simp only [Ap]
          refine tE 16 ?_; try simp only [Ap]
          refine tE 17 ?_; try simp only [Ap]
          refine wpAnyE_ready (rs := [18]) (by kernel_rfl) (by simp) ?_
          refine AllReadyE.cons rfl (fun K hK => ?_) AllReadyE.nil
          go_simp
          skip
          refine hK.out _ _ (fun _ => ⟨d0, d1, d3, q0, q1, q2, n0, n1, n2, n3, n4, n5⟩) (fun hHeld => ?_)
          have hHeld := hHeld (by decide)
          clear hK K
          try simp only [Ap]
          refine wpAnyE_ready (rs := [19]) (by kernel_rfl) (by simp) ?_
          refine AllReadyE.cons rfl (fun K hK => ?_) AllReadyE.nil
          refine step_append_lies _ (by rfl) _ _ _ (by rfl) w0.heap.size 91 j0 (.agg #[.int .u8 0, .string ⟨#[]⟩, .bool false, .int .u64 0, .int .u64 0, .int .u8 0, .string ⟨#[]⟩, .int .i64 0, .int .i64 0]) 9 88 Tryz.underlying79 hj hj0 hj1 hj2 rfl (by decide) _ U _ (by rfl) HOX.out ⟨w7.heap.size, 0, none⟩ 1 1 [.int .u8 (x1 : Int), .string x2, .bool x3, .int .u64 (x4 : Int), .int .u64 (x5 : Int), .int .u8 (x6 : Int), .string wd, .int .i64 (n : Int), .int .i64 (k' : Int)] (by rfl) rfl HNew.out (by intro u hu; simp at hu; rcases hu with rfl | rfl | rfl | rfl | rfl | rfl | rfl | rfl | rfl <;> rfl) (by decide) (by unfold maxLen; omega) (by omega) (by simp; omega) (w7.heap.size + 1) (by simp) ?_
          intro g' cap' w15 hown' hgrow hat hglt
          rw [← hw14] at hgrow HOX
          have R15 := Lib.hid (HRd.out.off (Keeps.row hgrow) (ownOff HOX.out) (by decide) (by decide))
          have O15 := Lib.hid (own_off HOWd.out (Keeps.row hgrow) (ownOff HOX.out) (by decide))
          obtain ⟨p0, p1, p3⟩ := R15.out.cell3
          obtain ⟨r0, r1, r2⟩ := R15.out.word Hs.out
          have M15 := HMd.out.off (Keeps.row hgrow) (ownOff HOX.out) (by decide)
          have s0 := M15.cell 0
          have s1 := M15.cell 1
          have s2 := M15.cell 2
          have s3 := M15.cell 3
          have s4 := M15.cell 4
          have s5 := M15.cell 5
          simp at s0 s1 s2 s3 s4 s5
          have pz := R15.out.blk.frozen 3
          have Hown := Lib.hid hown'
          have Hgrow := Lib.hid hgrow
          have Hat := Lib.hid hat
          clear hown' hgrow hat hglt
          refine hK.out _ _ (fun _ => ⟨p0, p1, p3, r0, r1, r2, s0, s1, s2, s3, s4, s5⟩) (fun hHeld => ?_)
          have hHeld := hHeld (by decide)
          clear hK K
          try simp only [Ap]
          refine wpAnyE_ready (rs := [20]) (by kernel_rfl) (by simp) ?_
          refine AllReadyE.cons rfl (fun K hK => ?_) AllReadyE.nil
          go_simp
          refine hK.out _ _ (fun _ => hHeld) (fun hHeld => ?_)
          have hHeld := hHeld (by decide)
          clear hK K
          try simp only [Ap]
          refine tE 21 ?_; try simp only [Ap]
          refine wpAnyE_ready (rs := [22]) (by kernel_rfl) (by simp) ?_
          refine AllReadyE.cons rfl (fun K hK => ?_) AllReadyE.nil
          go_simp
          refine hK.out _ _ (fun h => absurd rfl h) (fun _ => ?_)
          clear hK K hHeld
          try simp only [Ap]
          refine wpAnyE_done (by kernel_rfl) ?_
          go_upto_region 10 with fail
          obtain ⟨W, hW⟩ : ∃ W, W = w15.setCell ⟨b, 3, none⟩ (.slice (some ⟨g', 0, none⟩) (U + 1) cap') := ⟨_, rfl⟩
          have KQ : Keeps (fun x => x = b) w15 W := by rw [hW]; exact (Keeps.refl (fun x => x = b) w15).setCell (p := ⟨b, 3, none⟩) (Or.inl rfl) _
          have OQ : Off (fun x => x = b) w15 [81] := fun k hk => ⟨_, _, _, by subst hk; exact R15.out.blk, by simp⟩
          have RB : RdB W b (.slice (some ⟨gw, 0, none⟩) ws.length capw) (k' + 1) P (.slice (some ⟨g', 0, none⟩) (U + 1) cap') := by rw [hW]; exact R15.out.blk.set_ 3 _
          have RSW := Lib.hid (R15.out.step KQ RB)
          have hUn : usOf n (acc ++ [(⟨x1, x2, ⟨⟨x3, x4, x5⟩, x6⟩⟩, k')]) = usOf n acc ++ [(⟨x1, x2, ⟨⟨x3, x4, x5⟩, x6⟩⟩, n, k')] := by simp [usOf]
          have USW : RowKit.Hid (UsRow W w0.heap.size (.slice (some ⟨g', 0, none⟩) (U + 1) cap') (us ++ usOf n (acc ++ [(⟨x1, x2, ⟨⟨x3, x4, x5⟩, x6⟩⟩, k')]))) := by
            refine Lib.hid ⟨xs ++ [((⟨x1, x2, ⟨⟨x3, x4, x5⟩, x6⟩⟩, n, k'), wd)], ?_, ?_⟩
            · rw [List.map_append, HXs.out, hUn, List.append_assoc]; rfl
            · rw [hUn, ← List.append_assoc, List.length_append, ← HU1.out, usCells_snoc]
              exact own_off Hown.out KQ OQ (by decide)
          have OWW := Lib.hid (own_off O15.out KQ OQ (by decide))
          have KPW := Lib.hid ((Keeps.grown HKd.out Hgrow.out fun k hk => (hub.out k hk).elim (fun e => Or.inl (Or.inr e)) Or.inr).trans (KQ.mono (T := fun x => x = b ∨ uv.ownBlock = some x) fun k _ hk => Or.inl hk))
          have HUBW : RowKit.Hid (∀ g, (Value.slice (some ⟨g', 0, none⟩) (U + 1) cap').ownBlock = some g → uv.ownBlock = some g ∨ w.heap.size ≤ g) := Lib.hid fun g hg => by
            have hgg : some g' = some g := hg
            injection hgg with hgg
            rcases Hat.out with h | h
            · exact hub.out g (hgg ▸ h)
            · exact Or.inr (by omega)
          rw [← hW]
          clear hW KQ OQ RB hUn R15 O15 Hown Hgrow Hat HXs HOX HNew HRd HKd HOWd HMd M15 p0 p1 p3 r0 r1 r2 s0 s1 s2 s3 s4 s5 n0 n1 n2 n3 n4 n5 d0 d1 d3 q0 q1 q2 c0 c1 c3 t0 t1 t2 m0 m1 m2 m3 m4 m5 pz hHeld hw14 hs14
          have hmore := RSW.out.more
          have hR := HRz.out
          by_cases hend : k' + 1 < ws.length
          · rw [decide_eq_true hend] at hmore
            have HMore := Lib.hid hmore
            clear hmore hR
            go_wp2_with (go_at_call 94; (with_reducible refine HMore.out.mono ?_); rintro r w16 ⟨rfl, d16⟩)
            have RS16 := Lib.hid (RSW.out.below d16)
            have OW16 := Lib.hid (own_below OWW.out d16)
            have US16 := Lib.hid (USW.out.below d16)
            have KP16 := Lib.hid (KPW.out.trans (Keeps.of_below d16 fun k hk _ => hk))
            clear RSW OWW USW KPW
            go_roundw
            case rel => exact ⟨k' + 1, acc ++ [(⟨x1, x2, ⟨⟨x3, x4, x5⟩, x6⟩⟩, k')], A2, cap2, _, by rw [List.length_append, ← HL.out]; rfl, by omega, Lib.hid fun _ => hend, by rw [List.length_append, ← HL.out]; simp; omega, RS16, KP16, Lib.hid (by rw [List.length_append, ← HL.out, List.map_append, List.map_singleton, selCells_snoc]; exact OW16.out), US16, HUBW, HRz⟩
            case measure =>
              rw [RS16.out.next, Hnx.out]
              omega
          · rw [decide_eq_false hend] at hmore
            have HMore := Lib.hid hmore
            rw [selsT_end (by omega) (by simp)] at hR
            have HRf := Lib.hid hR
            clear hmore hR
            go_wp2_with (go_at_call 94; (with_reducible refine HMore.out.mono ?_); rintro r w16 ⟨rfl, d16⟩)
            have RS16 := Lib.hid (RSW.out.below d16)
            have OW16 := Lib.hid (own_below OWW.out d16)
            have US16 := Lib.hid (USW.out.below d16)
            have KP16 := Lib.hid (KPW.out.trans (Keeps.of_below d16 fun k hk _ => hk))
            clear RSW OWW USW KPW
            refine bodyPost_ret (results_tmp rfl _ _ _) rfl ⟨KP16.out, LineR.good HRf.out ⟨_, _, rfl, ?_, ?_, US16.out, HUBW.out, by rw [List.length_append, ← HL.out]; simp; omega⟩⟩
            · simp only
              rw [List.length_append, ← HL.out, List.map_append, List.map_singleton, selCells_snoc]
              exact OW16.out
            · simp only [List.length_nil]
              rw [show ws.length - 0 = k' + 1 by omega]
              exact RS16.out
      | false =>
        clear hcond
        cases o with
        | none =>
          have HSel := Lib.hid (sel_none hsel)
          clear hsel
          have hR := HR.out
          simp only at hR
          have HRn := Lib.hid hR
          clear hR HR
          go_upto_region 6 with (go_at_call 116; (with_reducible refine HSel.out.mono ?_); rintro r w3 ⟨⟨x1, x2, x3, x4, x5, x6, rfl⟩, d3⟩)
          have d4 := after d3 (boxed w3 (.cells #[.int .u8 (x1 : Int), .string x2, .bool x3, .int .u64 (x4 : Int), .int .u64 (x5 : Int), .int .u8 (x6 : Int)] 59))
          generalize w3.alloc (.cells #[.int .u8 (x1 : Int), .string x2, .bool x3, .int .u64 (x4 : Int), .int .u64 (x5 : Int), .int .u8 (x6 : Int)] 59) = w4 at d4 ⊢
          have RS4 := Lib.hid (RS2.out.below d4)
          have KP4 := Lib.hid (KP2.out.trans (Keeps.of_below d4 fun k hk _ => hk))
          clear RS2 KP2
          clear d4 d3 HSel
          have hun := RS4.out.unless (by omega) (by omega) false 195
          rw [atW_take hlt] at hun
          have HUn : RowKit.Hid (Calls Tryz.prog 30 #[.pointer (some ⟨b, 0, none⟩), .bool false, .int .i64 195] w4 fun r w' => r = PanicAt 195 n k' ∧ Below w4.heap.size w4 w') := Lib.hid hun
          clear hun
          go_wp2_with (go_at_call 30; (with_reducible refine HUn.out.mono ?_); rintro r w5 ⟨rfl, d5⟩; unfold PanicAt)
          exact ⟨rfl, KP4.out.trans (Keeps.of_below d5 fun k hk _ => hk), LineR.bad HRn.out⟩
        | some X =>
          have hR := HR.out
          simp only at hR
          obtain ⟨x1, x2, ⟨⟨x3, x4, x5⟩, x6⟩⟩ := X
          have HSel : RowKit.Hid (Calls Tryz.prog 116 #[.string wd] w2 (Got (.tuple #[.agg #[.int .u8 (x1 : Int), .string x2, .bool x3, .int .u64 (x4 : Int), .int .u64 (x5 : Int), .int .u8 (x6 : Int)], .bool true]) w2)) := Lib.hid (sel_some hsel)
          clear hsel
          have HRn := Lib.hid hR
          clear hR HR
          go_upto_region 6 with (go_at_call 116; (with_reducible refine HSel.out.mono ?_); rintro r w3 ⟨rfl, d3⟩)
          have d4 := after d3 (boxed w3 (.cells #[.int .u8 (x1 : Int), .string x2, .bool x3, .int .u64 (x4 : Int), .int .u64 (x5 : Int), .int .u8 (x6 : Int)] 59))
          have M4 := Lib.hid (Blk.new w3 59 #[.int .u8 (x1 : Int), .string x2, .bool x3, .int .u64 (x4 : Int), .int .u64 (x5 : Int), .int .u8 (x6 : Int)])
          have hM3 := d3.size
          generalize w3.alloc (.cells #[.int .u8 (x1 : Int), .string x2, .bool x3, .int .u64 (x4 : Int), .int .u64 (x5 : Int), .int .u8 (x6 : Int)] 59) = w4 at d4 M4 ⊢
          generalize w3.heap.size = M at hM3 M4 ⊢
          have hOM : ∀ g, (Value.slice A L cap).ownBlock = some g → g < M := fun g hg => by have := (OW2.out.lt g hg).2; omega
          have HOM := Lib.hid hOM
          have RS4 := Lib.hid (RS2.out.below d4)
          have OW4 := Lib.hid (own_below OW2.out d4)
          have US4 := Lib.hid (US2.out.below d4)
          have KP4 := Lib.hid (KP2.out.trans (Keeps.of_below d4 fun k hk _ => hk))
          clear RS2 OW2 US2 KP2
          clear d4 d3 HSel hOM
          have hun := RS4.out.unless (by omega) (by omega) true 195
          have HUn : RowKit.Hid (Calls Tryz.prog 30 #[.pointer (some ⟨b, 0, none⟩), .bool true, .int .i64 195] w4 fun r w' => r = .returned (.tuple #[]) ∧ Below w4.heap.size w4 w') := Lib.hid hun
          clear hun
          go_upto_region 7 with (go_at_call 30; (with_reducible refine HUn.out.mono ?_); rintro r w5 ⟨rfl, d5⟩)
          have RS5 := Lib.hid (RS4.out.below d5)
          have OW5 := Lib.hid (own_below OW4.out d5)
          have US5 := Lib.hid (US4.out.below d5)
          have KP5 := Lib.hid (KP4.out.trans (Keeps.of_below d5 fun k hk _ => hk))
          have M5 := Lib.hid (M4.out.below d5 M4.out.lt)
          clear RS4 OW4 US4 KP4 M4
          clear d5 HUn
          have hro := RS5.out.room (by omega) (by omega) L
          rw [atW_take hlt] at hro
          have HRo := Lib.hid hro
          clear hro
          by_cases h64 : 64 ≤ L
          · have hR := HRn.out
            rw [← HL.out, if_pos h64] at hR
            rw [decide_eq_false (by omega)] at HRo
            have HRoo : RowKit.Hid (Calls Tryz.prog 91 #[.pointer (some ⟨b, 0, none⟩), .int .i64 (L : Int)] w5 fun r w' => r = PanicAt 198 n k' ∧ Below w5.heap.size w5 w') := HRo
            have HRz := Lib.hid hR
            clear HRo hR HRn h64
            go_wp2_with (go_at_call 91; (with_reducible refine HRoo.out.mono ?_); rintro r w6 ⟨rfl, d6⟩; unfold PanicAt)
            exact ⟨rfl, KP5.out.trans (Keeps.of_below d6 fun k hk _ => hk), LineR.bad HRz.out⟩
          have hR := HRn.out
          rw [← HL.out, if_neg h64] at hR
          rw [decide_eq_true (by omega)] at HRo
          have HRoo : RowKit.Hid (Calls Tryz.prog 91 #[.pointer (some ⟨b, 0, none⟩), .int .i64 (L : Int)] w5 fun r w' => r = .returned (.tuple #[]) ∧ Below w5.heap.size w5 w') := HRo
          have HRz := Lib.hid hR
          clear HRo hR HRn
          go_upto_region 8 with (go_at_call 91; (with_reducible refine HRoo.out.mono ?_); rintro r w6 ⟨rfl, d6⟩)
          have RS6 := Lib.hid (RS5.out.below d6)
          have OW6 := Lib.hid (own_below OW5.out d6)
          have US6 := Lib.hid (US5.out.below d6)
          have KP6 := Lib.hid (KP5.out.trans (Keeps.of_below d6 fun k hk _ => hk))
          have M6 := Lib.hid (M5.out.below d6 M5.out.lt)
          clear RS5 OW5 US5 KP5 M5
          clear d6 HRoo
          have m0 := M6.out.cell 0
          have m1 := M6.out.cell 1
          have m2 := M6.out.cell 2
          have m3 := M6.out.cell 3
          have m4 := M6.out.cell 4
          have m5 := M6.out.cell 5
          simp at m0 m1 m2 m3 m4 m5
          have hwb := KP6.out.size
          go_upto_region 9 with (at_builtin; refine wpList_append_own _ rfl _ _ 54 rfl w.heap.size 59 i0 (.agg #[.int .u8 0, .string ⟨#[]⟩, .bool false, .int .u64 0, .int .u64 0, .int .u8 0]) 6 56 Tryz.underlying54 hi hz0 hz1 hz2 rfl (by decide) _ L _ rfl (OW6.out.alloc _) ⟨w6.heap.size, 0, none⟩ 1 1 [.int .u8 (x1 : Int), .string x2, .bool x3, .int .u64 (x4 : Int), .int .u64 (x5 : Int), .int .u8 (x6 : Int)] rfl rfl (cells_new w6 [.int .u8 (x1 : Int), .string x2, .bool x3, .int .u64 (x4 : Int), .int .u64 (x5 : Int), .int .u8 (x6 : Int)] 59) (by intro u hu; simp at hu; rcases hu with rfl | rfl | rfl | rfl | rfl | rfl <;> rfl) (by unfold maxLen; omega) (by omega) (by simp; omega) ?_; intro v' w7 hown' hgrow hnil)
          have HK7 := Keeps.row hgrow
          have HO7 := ownOff (OW6.out.alloc (.cells #[.int .u8 (x1 : Int), .string x2, .bool x3, .int .u64 (x4 : Int), .int .u64 (x5 : Int), .int .u8 (x6 : Int)] 59))
          have RS7 := Lib.hid ((RS6.out.alloc _).off HK7 HO7 (by decide) (by decide))
          have US7 := Lib.hid ((US6.out.below (boxed w6 _)).off HK7 HO7 (by decide))
          have M7 := Lib.hid ((M6.out.alloc _).grown hgrow (fun e => by have := HOM.out M e.symm; omega))
          have KP7 := Lib.hid (Keeps.grown (KP6.out.alloc _) hgrow fun k hk => Or.inr (OW6.out.lt k hk).1)
          obtain ⟨A2, cap2, rfl⟩ := own_shape hown'
          have OW7 := Lib.hid hown'
          have hwb7 : w.heap.size ≤ w7.heap.size := KP7.out.size
          clear HK7 HO7 hgrow hnil hown' RS6 US6 M6 KP6 OW6 HOM m0 m1 m2 m3 m4 m5 hwb
          obtain ⟨gw, capw, rfl, hcapw, ⟨curw, hgW⟩, hcw⟩ := RS7.out.row.shape RS7.out.ne
          obtain ⟨xs, hxs, hu9⟩ := US7.out
          obtain ⟨Au, capu, rfl⟩ := own_shape hu9
          obtain ⟨U, hU⟩ : ∃ U, U = (us ++ usOf n acc).length := ⟨_, rfl⟩
          rw [← hU] at hu9 hub
          have hU1 : U ≤ 4000100 := by rw [hU, List.length_append]; unfold usOf; rw [List.length_map]; have := HL.out; omega
          obtain ⟨c0, c1, c3⟩ := RS7.out.cell3
          rw [← hU] at c3
          obtain ⟨t0, t1, t2⟩ := RS7.out.word Hs.out
          have m0 := M7.out.cell 0
          have m1 := M7.out.cell 1
          have m2 := M7.out.cell 2
          have m3 := M7.out.cell 3
          have m4 := M7.out.cell 4
          have m5 := M7.out.cell 5
          simp at m0 m1 m2 m3 m4 m5
          have i1 : IntKind.i64.wrap (k' : Int) = (k' : Int) := by have := HWl.out; rw [IntKind.wrap_i64]; omega
          have i2 : (k' : Int) < (ws.length : Int) := by omega
          obtain ⟨w14, hw14⟩ : ∃ x, x = (w7.alloc (.cells #[.int .u8 (x1 : Int), .string x2, .bool x3, .int .u64 (x4 : Int), .int .u64 (x5 : Int), .int .u8 (x6 : Int), .string wd, .int .i64 (n : Int), .int .i64 (k' : Int)] 91)).drew := ⟨_, rfl⟩
          have HOX : RowKit.Hid (w14.ownsRow w0.heap.size 91 9 (.slice Au U capu) U (usCells xs)) := Lib.hid (by rw [hw14]; exact hu9.alloc _)
          have HNew : RowKit.Hid (∀ j u, [.int .u8 (x1 : Int), .string x2, .bool x3, .int .u64 (x4 : Int), .int .u64 (x5 : Int), .int .u8 (x6 : Int), .string wd, .int .i64 (n : Int), .int .i64 (k' : Int)][j]? = some u → w14.cell? ((⟨w7.heap.size, 0, none⟩ : Addr).add j) = some u) := Lib.hid (by rw [hw14]; exact cells_new w7 [.int .u8 (x1 : Int), .string x2, .bool x3, .int .u64 (x4 : Int), .int .u64 (x5 : Int), .int .u8 (x6 : Int), .string wd, .int .i64 (n : Int), .int .i64 (k' : Int)] 91)
          have HRd : RowKit.Hid (Rs w14 b P (k' + 1) n (.slice (some ⟨gw, 0, none⟩) ws.length capw) (.slice Au U capu) ws) := Lib.hid (by rw [hw14, hU]; exact ⟨(RS7.out.alloc _).blk, (RS7.out.alloc _).row, RS7.out.ne, RS7.out.len, RS7.out.sizes⟩)
          have HKd : RowKit.Hid (Keeps (fun x => x = b ∨ uv.ownBlock = some x) w w14) := Lib.hid (by rw [hw14]; exact (KP7.out.alloc _).drew)
          have HOWd : RowKit.Hid (w14.ownsRow w.heap.size 59 6 (.slice A2 (L + 1) cap2) (L + 1) _) := Lib.hid (by rw [hw14]; exact OW7.out.alloc _)
          have hs14 : w14.heap.size = w7.heap.size + 1 := by rw [hw14]; simp
          have hb8 : Below w7.heap.size w7 w14 := by rw [hw14]; have q := boxed w7 (.cells #[.int .u8 (x1 : Int), .string x2, .bool x3, .int .u64 (x4 : Int), .int .u64 (x5 : Int), .int .u8 (x6 : Int), .string wd, .int .i64 (n : Int), .int .i64 (k' : Int)] 91); exact ⟨q.os, q.tape, q.output, q.size, q.block⟩
          obtain ⟨d0, d1, d3⟩ := HRd.out.cell3
          obtain ⟨q0, q1, q2⟩ := HRd.out.word Hs.out
          have HMd := Lib.hid (M7.out.below hb8 M7.out.lt)
          have n0 := HMd.out.cell 0
          have n1 := HMd.out.cell 1
          have n2 := HMd.out.cell 2
          have n3 := HMd.out.cell 3
          have n4 := HMd.out.cell 4
          have n5 := HMd.out.cell 5
          simp at n0 n1 n2 n3 n4 n5
          have HXs := Lib.hid hxs
          have HU1 := Lib.hid hU
          clear hxs hu9 hU RS7 KP7 M7 OW7 hgW hcw hb8 US7
          rw [hw14] at HOX HNew d0 d1 d3 q0 q1 q2 n0 n1 n2 n3 n4 n5
          refine wp_region_E 22 (fun w' => w'.cell? ⟨b, 0, none⟩ = some (.slice (some ⟨gw, 0, none⟩) ws.length capw) ∧ w'.cell? ⟨b, 1, none⟩ = some (.int .i64 ((k' + 1 : Nat) : Int)) ∧ w'.cell? ⟨b, 3, none⟩ = some (.slice Au U capu) ∧ w'.cell? ⟨gw, k' * 3, none⟩ = some (.string wd) ∧ w'.cell? ⟨gw, k' * 3 + 1, none⟩ = some (.int .i64 (n : Int)) ∧ w'.cell? ⟨gw, k' * 3 + 2, none⟩ = some (.int .i64 (k' : Int)) ∧ w'.cell? ⟨M, 0, none⟩ = some (.int .u8 (x1 : Int)) ∧ w'.cell? ⟨M, 1, none⟩ = some (.string x2) ∧ w'.cell? ⟨M, 2, none⟩ = some (.bool x3) ∧ w'.cell? ⟨M, 3, none⟩ = some (.int .u64 (x4 : Int)) ∧ w'.cell? ⟨M, 4, none⟩ = some (.int .u64 (x5 : Int)) ∧ w'.cell? ⟨M, 5, none⟩ = some (.int .u8 (x6 : Int))) (by kernel_rfl) (⟨c0, c1, c3, t0, t1, t2, m0, m1, m2, m3, m4, m5⟩) (fun hHeld => ?_)
          refine tE 0 ?_; try simp only [Ap]
          refine tE 1 ?_; try simp only [Ap]
          refine tE 2 ?_; try simp only [Ap]
          refine tE 3 ?_; try simp only [Ap]
          refine tE 4 ?_; try simp only [Ap]
          refine tE 5 ?_; try simp only [Ap]
          refine tE 6 ?_; try simp only [Ap]
          refine tE 7 ?_; try simp only [Ap]
          refine tE 8 ?_; try simp only [Ap]
          refine tE 9 ?_; try simp only [Ap]
          refine tE 10 ?_; try simp only [Ap]
          refine tE 11 ?_; try simp only [Ap]
          refine tE 12 ?_; try simp only [Ap]
          refine tE 13 ?_; try simp only [Ap]
          refine tE 14 ?_; try simp only [Ap]
          refine tE 15 ?_; try simp only [Ap]
          refine tE 16 ?_; try simp only [Ap]
          refine tE 17 ?_; try simp only [Ap]
          refine wpAnyE_ready (rs := [18]) (by kernel_rfl) (by simp) ?_
          refine AllReadyE.cons rfl (fun K hK => ?_) AllReadyE.nil
          go_simp
          skip
          refine hK.out _ _ (fun _ => ⟨d0, d1, d3, q0, q1, q2, n0, n1, n2, n3, n4, n5⟩) (fun hHeld => ?_)
          have hHeld := hHeld (by decide)
          clear hK K
          try simp only [Ap]
          refine wpAnyE_ready (rs := [19]) (by kernel_rfl) (by simp) ?_
          refine AllReadyE.cons rfl (fun K hK => ?_) AllReadyE.nil
          refine step_append_lies _ (by rfl) _ _ _ (by rfl) w0.heap.size 91 j0 (.agg #[.int .u8 0, .string ⟨#[]⟩, .bool false, .int .u64 0, .int .u64 0, .int .u8 0, .string ⟨#[]⟩, .int .i64 0, .int .i64 0]) 9 88 Tryz.underlying79 hj hj0 hj1 hj2 rfl (by decide) _ U _ (by rfl) HOX.out ⟨w7.heap.size, 0, none⟩ 1 1 [.int .u8 (x1 : Int), .string x2, .bool x3, .int .u64 (x4 : Int), .int .u64 (x5 : Int), .int .u8 (x6 : Int), .string wd, .int .i64 (n : Int), .int .i64 (k' : Int)] (by rfl) rfl HNew.out (by intro u hu; simp at hu; rcases hu with rfl | rfl | rfl | rfl | rfl | rfl | rfl | rfl | rfl <;> rfl) (by decide) (by unfold maxLen; omega) (by omega) (by simp; omega) (w7.heap.size + 1) (by simp) ?_
          intro g' cap' w15 hown' hgrow hat hglt
          rw [← hw14] at hgrow HOX
          have R15 := Lib.hid (HRd.out.off (Keeps.row hgrow) (ownOff HOX.out) (by decide) (by decide))
          have O15 := Lib.hid (own_off HOWd.out (Keeps.row hgrow) (ownOff HOX.out) (by decide))
          obtain ⟨p0, p1, p3⟩ := R15.out.cell3
          obtain ⟨r0, r1, r2⟩ := R15.out.word Hs.out
          have M15 := HMd.out.off (Keeps.row hgrow) (ownOff HOX.out) (by decide)
          have s0 := M15.cell 0
          have s1 := M15.cell 1
          have s2 := M15.cell 2
          have s3 := M15.cell 3
          have s4 := M15.cell 4
          have s5 := M15.cell 5
          simp at s0 s1 s2 s3 s4 s5
          have pz := R15.out.blk.frozen 3
          have Hown := Lib.hid hown'
          have Hgrow := Lib.hid hgrow
          have Hat := Lib.hid hat
          clear hown' hgrow hat hglt
          refine hK.out _ _ (fun _ => ⟨p0, p1, p3, r0, r1, r2, s0, s1, s2, s3, s4, s5⟩) (fun hHeld => ?_)
          have hHeld := hHeld (by decide)
          clear hK K
          try simp only [Ap]
          refine wpAnyE_ready (rs := [20]) (by kernel_rfl) (by simp) ?_
          refine AllReadyE.cons rfl (fun K hK => ?_) AllReadyE.nil
          go_simp
          refine hK.out _ _ (fun _ => hHeld) (fun hHeld => ?_)
          have hHeld := hHeld (by decide)
          clear hK K
          try simp only [Ap]
          refine tE 21 ?_; try simp only [Ap]
          refine wpAnyE_ready (rs := [22]) (by kernel_rfl) (by simp) ?_
          refine AllReadyE.cons rfl (fun K hK => ?_) AllReadyE.nil
          go_simp
          refine hK.out _ _ (fun h => absurd rfl h) (fun _ => ?_)
          clear hK K hHeld
          try simp only [Ap]
          refine wpAnyE_done (by kernel_rfl) ?_
          go_upto_region 10 with fail
          obtain ⟨W, hW⟩ : ∃ W, W = w15.setCell ⟨b, 3, none⟩ (.slice (some ⟨g', 0, none⟩) (U + 1) cap') := ⟨_, rfl⟩
          have KQ : Keeps (fun x => x = b) w15 W := by rw [hW]; exact (Keeps.refl (fun x => x = b) w15).setCell (p := ⟨b, 3, none⟩) (Or.inl rfl) _
          have OQ : Off (fun x => x = b) w15 [81] := fun k hk => ⟨_, _, _, by subst hk; exact R15.out.blk, by simp⟩
          have RB : RdB W b (.slice (some ⟨gw, 0, none⟩) ws.length capw) (k' + 1) P (.slice (some ⟨g', 0, none⟩) (U + 1) cap') := by rw [hW]; exact R15.out.blk.set_ 3 _
          have RSW := Lib.hid (R15.out.step KQ RB)
          have hUn : usOf n (acc ++ [(⟨x1, x2, ⟨⟨x3, x4, x5⟩, x6⟩⟩, k')]) = usOf n acc ++ [(⟨x1, x2, ⟨⟨x3, x4, x5⟩, x6⟩⟩, n, k')] := by simp [usOf]
          have USW : RowKit.Hid (UsRow W w0.heap.size (.slice (some ⟨g', 0, none⟩) (U + 1) cap') (us ++ usOf n (acc ++ [(⟨x1, x2, ⟨⟨x3, x4, x5⟩, x6⟩⟩, k')]))) := by
            refine Lib.hid ⟨xs ++ [((⟨x1, x2, ⟨⟨x3, x4, x5⟩, x6⟩⟩, n, k'), wd)], ?_, ?_⟩
            · rw [List.map_append, HXs.out, hUn, List.append_assoc]; rfl
            · rw [hUn, ← List.append_assoc, List.length_append, ← HU1.out, usCells_snoc]
              exact own_off Hown.out KQ OQ (by decide)
          have OWW := Lib.hid (own_off O15.out KQ OQ (by decide))
          have KPW := Lib.hid ((Keeps.grown HKd.out Hgrow.out fun k hk => (hub.out k hk).elim (fun e => Or.inl (Or.inr e)) Or.inr).trans (KQ.mono (T := fun x => x = b ∨ uv.ownBlock = some x) fun k _ hk => Or.inl hk))
          have HUBW : RowKit.Hid (∀ g, (Value.slice (some ⟨g', 0, none⟩) (U + 1) cap').ownBlock = some g → uv.ownBlock = some g ∨ w.heap.size ≤ g) := Lib.hid fun g hg => by
            have hgg : some g' = some g := hg
            injection hgg with hgg
            rcases Hat.out with h | h
            · exact hub.out g (hgg ▸ h)
            · exact Or.inr (by omega)
          rw [← hW]
          clear hW KQ OQ RB hUn R15 O15 Hown Hgrow Hat HXs HOX HNew HRd HKd HOWd HMd M15 p0 p1 p3 r0 r1 r2 s0 s1 s2 s3 s4 s5 n0 n1 n2 n3 n4 n5 d0 d1 d3 q0 q1 q2 c0 c1 c3 t0 t1 t2 m0 m1 m2 m3 m4 m5 pz hHeld hw14 hs14
          have hmore := RSW.out.more
          have hR := HRz.out
          by_cases hend : k' + 1 < ws.length
          · rw [decide_eq_true hend] at hmore
            have HMore := Lib.hid hmore
            clear hmore hR
            go_wp2_with (go_at_call 94; (with_reducible refine HMore.out.mono ?_); rintro r w16 ⟨rfl, d16⟩)
            have RS16 := Lib.hid (RSW.out.below d16)
            have OW16 := Lib.hid (own_below OWW.out d16)
            have US16 := Lib.hid (USW.out.below d16)
            have KP16 := Lib.hid (KPW.out.trans (Keeps.of_below d16 fun k hk _ => hk))
            clear RSW OWW USW KPW
            go_roundw
            case rel => exact ⟨k' + 1, acc ++ [(⟨x1, x2, ⟨⟨x3, x4, x5⟩, x6⟩⟩, k')], A2, cap2, _, by rw [List.length_append, ← HL.out]; rfl, by omega, Lib.hid fun _ => hend, by rw [List.length_append, ← HL.out]; simp; omega, RS16, KP16, Lib.hid (by rw [List.length_append, ← HL.out, List.map_append, List.map_singleton, selCells_snoc]; exact OW16.out), US16, HUBW, HRz⟩
            case measure =>
              rw [RS16.out.next, Hnx.out]
              omega
          · rw [decide_eq_false hend] at hmore
            have HMore := Lib.hid hmore
            rw [selsT_end (by omega) (by simp)] at hR
            have HRf := Lib.hid hR
            clear hmore hR
            go_wp2_with (go_at_call 94; (with_reducible refine HMore.out.mono ?_); rintro r w16 ⟨rfl, d16⟩)
            have RS16 := Lib.hid (RSW.out.below d16)
            have OW16 := Lib.hid (own_below OWW.out d16)
            have US16 := Lib.hid (USW.out.below d16)
            have KP16 := Lib.hid (KPW.out.trans (Keeps.of_below d16 fun k hk _ => hk))
            clear RSW OWW USW KPW
            refine bodyPost_ret (results_tmp rfl _ _ _) rfl ⟨KP16.out, LineR.good HRf.out ⟨_, _, rfl, ?_, ?_, US16.out, HUBW.out, by rw [List.length_append, ← HL.out]; simp; omega⟩⟩
            · simp only
              rw [List.length_append, ← HL.out, List.map_append, List.map_singleton, selCells_snoc]
              exact OW16.out
            · simp only [List.length_nil]
              rw [show ws.length - 0 = k' + 1 by omega]
              exact RS16.out
end Go.Proofs.YtbiglifngfgffaaGreatDoor
