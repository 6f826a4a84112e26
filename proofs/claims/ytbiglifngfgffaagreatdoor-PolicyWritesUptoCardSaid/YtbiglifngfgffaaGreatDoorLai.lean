/- Joined out of: PlH PlI PlJ PlK. -/
import Derived.Test.YtbiglifngfgffaaGreatDoorLaa
import Derived.Test.YtbiglifngfgffaaGreatDoorLae
import Derived.Test.YtbiglifngfgffaaGreatDoorLah
import Derived.Deep.RegionHeld3
import Derived.Lib.AppendIntMem
set_option linter.unusedVariables false
set_option linter.unusedSimpArgs false

/- A selector of a word (sel): the walk. -/
namespace Go.Proofs.YtbiglifngfgffaaGreatDoor
open Go.RowKit
attribute [local go_sem ↓] Go.wp_at_zero Go.wp_at_succ

def Sel.cells (s : Sel) : Array Value := #[.int .u8 (s.kind : Int), .string s.name, .bool s.net.a.v6, .int .u64 (s.net.a.hi : Int), .int .u64 (s.net.a.lo : Int), .int .u8 (s.net.bits : Int)]
theorem run_lookup1 {P : Program} {T K E : TypeId} {w : World} {m clock : Nat} {L : List SE} (hT : P.underlying T = some (.map K E)) (hK : P.underlying K = some .string) (h : MBlk w m L clock) (s : ByteArray) {j : Nat} {x : SE} (hj : at_ L s = some j) (hx : L[j]? = some x) :
    (Instr.lookup T (.map (some m)) (.string s) false).run P w = .ok x.val w := by
  simp [Instr.lookup, run_underlying hT, run_getObj_map h, run_checkKey_string _ _ hK, ents, run_findKey_sm s hK, hj, hx, List.getD_eq_getElem?_getD]
theorem run_lookup1_none {P : Program} {T K E : TypeId} {w : World} {m clock : Nat} {L : List SE} (hT : P.underlying T = some (.map K E)) (hK : P.underlying K = some .string) (h : MBlk w m L clock) (s : ByteArray) (hj : at_ L s = none) {z : Value} (hz : (zeroValue E).run P w = .ok z w) :
    (Instr.lookup T (.map (some m)) (.string s) false).run P w = .ok z w := by
  simp [Instr.lookup, run_underlying hT, run_getObj_map h, run_checkKey_string _ _ hK, ents, run_findKey_sm s hK, hj, hz]
def kindsL : List SE := [⟨W_user, .int .u8 2, 0⟩, ⟨W_group, .int .u8 3, 1⟩, ⟨W_tag, .int .u8 4, 2⟩, ⟨W_host, .int .u8 5, 3⟩, ⟨W_net, .int .u8 6, 4⟩]
theorem beq_false_of {a b : ByteArray} (h : a ≠ b) : (a == b) = false := by
  cases e : a == b with
  | false => rfl
  | true => exact absurd ((bytes_beq a b).1 e) h
theorem beq_true_of (a : ByteArray) : (a == a) = true := (bytes_beq a a).2 rfl
theorem kinds_lookup {w : World} {m clock : Nat} (h : MBlk w m kindsL clock) (s : ByteArray) : (Instr.lookup 184 (.map (some m)) (.string s) false).run Tryz.prog w = .ok (.int .u8 (kindN s.data.toList : Int)) w := by
  have hT := Tryz.underlying184
  have hK := Tryz.underlying9
  unfold kindN
  rw [ofL_back]
  by_cases e1 : s = W_user
  · subst e1
    rw [if_pos rfl]
    exact run_lookup1 hT hK h _ (j := 0) (x := ⟨W_user, .int .u8 2, 0⟩) (by decide +kernel) rfl
  rw [if_neg e1]
  by_cases e2 : s = W_group
  · subst e2
    rw [if_pos rfl]
    exact run_lookup1 hT hK h _ (j := 1) (x := ⟨W_group, .int .u8 3, 1⟩) (by decide +kernel) rfl
  rw [if_neg e2]
  by_cases e3 : s = W_tag
  · subst e3
    rw [if_pos rfl]
    exact run_lookup1 hT hK h _ (j := 2) (x := ⟨W_tag, .int .u8 4, 2⟩) (by decide +kernel) rfl
  rw [if_neg e3]
  by_cases e4 : s = W_host
  · subst e4
    rw [if_pos rfl]
    exact run_lookup1 hT hK h _ (j := 3) (x := ⟨W_host, .int .u8 5, 3⟩) (by decide +kernel) rfl
  rw [if_neg e4]
  by_cases e5 : s = W_net
  · subst e5
    rw [if_pos rfl]
    exact run_lookup1 hT hK h _ (j := 4) (x := ⟨W_net, .int .u8 6, 4⟩) (by decide +kernel) rfl
  rw [if_neg e5]
  refine run_lookup1_none hT hK h s ?_ (Tryz.zeroValue5 w)
  unfold at_ kindsL
  simp only [List.findIdx?_cons, List.findIdx?_nil]
  rw [beq_false_of (Ne.symm e1), beq_false_of (Ne.symm e2), beq_false_of (Ne.symm e3), beq_false_of (Ne.symm e4), beq_false_of (Ne.symm e5)]
  rfl
theorem load_sel {w : World} {g : Nat} {v0 v1 v2 v3 v4 v5 : Value} (h : Blk w g 59 #[v0, v1, v2, v3, v4, v5]) : (loadVar 59 ⟨g, 0, none⟩).run Tryz.prog w = .ok (.agg #[v0, v1, v2, v3, v4, v5]) w := by
  have c0 := h.cell 0
  have c1 := h.cell 1
  have c2 := h.cell 2
  have c3 := h.cell 3
  have c4 := h.cell 4
  have c5 := h.cell 5
  simp at c0 c1 c2 c3 c4 c5
  simp [loadVar, go_sem, c0, c1, c2, c3, c4, c5]
theorem sel_put {W w : World} {g : Nat} {z0 z1 z2 z3 z4 z5 v0 v1 v2 v3 v4 v5 : Value} (hB : Blk w g 59 #[z0, z1, z2, z3, z4, z5]) (hb : Below W.heap.size W w) (hg : W.heap.size ≤ g) : Blk ((((((w.setCell ⟨g, 0, none⟩ v0).setCell ⟨g, 1, none⟩ v1).setCell ⟨g, 2, none⟩ v2).setCell ⟨g, 3, none⟩ v3).setCell ⟨g, 4, none⟩ v4).setCell ⟨g, 5, none⟩ v5) g 59 #[v0, v1, v2, v3, v4, v5] ∧ Below W.heap.size W ((((((w.setCell ⟨g, 0, none⟩ v0).setCell ⟨g, 1, none⟩ v1).setCell ⟨g, 2, none⟩ v2).setCell ⟨g, 3, none⟩ v3).setCell ⟨g, 4, none⟩ v4).setCell ⟨g, 5, none⟩ v5) := by
  have s0 : Blk (w.setCell ⟨g, 0, none⟩ v0) g 59 #[v0, z1, z2, z3, z4, z5] := hB.set_ 0 v0
  have s1 : Blk ((w.setCell ⟨g, 0, none⟩ v0).setCell ⟨g, 1, none⟩ v1) g 59 #[v0, v1, z2, z3, z4, z5] := s0.set_ 1 v1
  have s2 : Blk (((w.setCell ⟨g, 0, none⟩ v0).setCell ⟨g, 1, none⟩ v1).setCell ⟨g, 2, none⟩ v2) g 59 #[v0, v1, v2, z3, z4, z5] := s1.set_ 2 v2
  have s3 : Blk ((((w.setCell ⟨g, 0, none⟩ v0).setCell ⟨g, 1, none⟩ v1).setCell ⟨g, 2, none⟩ v2).setCell ⟨g, 3, none⟩ v3) g 59 #[v0, v1, v2, v3, z4, z5] := s2.set_ 3 v3
  have s4 : Blk (((((w.setCell ⟨g, 0, none⟩ v0).setCell ⟨g, 1, none⟩ v1).setCell ⟨g, 2, none⟩ v2).setCell ⟨g, 3, none⟩ v3).setCell ⟨g, 4, none⟩ v4) g 59 #[v0, v1, v2, v3, v4, z5] := s3.set_ 4 v4
  have s5 : Blk ((((((w.setCell ⟨g, 0, none⟩ v0).setCell ⟨g, 1, none⟩ v1).setCell ⟨g, 2, none⟩ v2).setCell ⟨g, 3, none⟩ v3).setCell ⟨g, 4, none⟩ v4).setCell ⟨g, 5, none⟩ v5) g 59 #[v0, v1, v2, v3, v4, v5] := s4.set_ 5 v5
  exact ⟨s5, ((((((hb.setCell (p := ⟨g, 0, none⟩) hg v0).setCell (p := ⟨g, 1, none⟩) hg v1).setCell (p := ⟨g, 2, none⟩) hg v2).setCell (p := ⟨g, 3, none⟩) hg v3).setCell (p := ⟨g, 4, none⟩) hg v4).setCell (p := ⟨g, 5, none⟩) hg v5)⟩
theorem MBlk.put6 {w : World} {m clock g : Nat} {L : List SE} {v0 v1 v2 v3 v4 v5 : Value} (h : MBlk w m L clock) (hne : g ≠ m) : MBlk ((((((w.setCell ⟨g, 0, none⟩ v0).setCell ⟨g, 1, none⟩ v1).setCell ⟨g, 2, none⟩ v2).setCell ⟨g, 3, none⟩ v3).setCell ⟨g, 4, none⟩ v4).setCell ⟨g, 5, none⟩ v5) m L clock := by
  have k := ((((((Keeps.refl (fun x => x = g) w).setCell (p := ⟨g, 0, none⟩) (Or.inl rfl) v0).setCell (p := ⟨g, 1, none⟩) (Or.inl rfl) v1).setCell (p := ⟨g, 2, none⟩) (Or.inl rfl) v2).setCell (p := ⟨g, 3, none⟩) (Or.inl rfl) v3).setCell (p := ⟨g, 4, none⟩) (Or.inl rfl) v4).setCell (p := ⟨g, 5, none⟩) (Or.inl rfl) v5
  exact h.keep k fun e => hne e.symm
theorem MBlk.drw {w : World} {m clock : Nat} {L : List SE} (h : MBlk w m L clock) : MBlk w.drew m L clock := h
theorem kinds_made (w0 : World) : ∃ w1 w2 w3 w4 w5 : World, (Instr.mapUpdate 184 (.map (some w0.heap.size)) (.string ⟨#[117, 115, 101, 114]⟩) (.int .u8 2)).run Tryz.prog (w0.alloc (.map #[] 0)) = .ok () w1 ∧
    (Instr.mapUpdate 184 (.map (some w0.heap.size)) (.string ⟨#[103, 114, 111, 117, 112]⟩) (.int .u8 3)).run Tryz.prog w1 = .ok () w2 ∧
    (Instr.mapUpdate 184 (.map (some w0.heap.size)) (.string ⟨#[116, 97, 103]⟩) (.int .u8 4)).run Tryz.prog w2 = .ok () w3 ∧
    (Instr.mapUpdate 184 (.map (some w0.heap.size)) (.string ⟨#[104, 111, 115, 116]⟩) (.int .u8 5)).run Tryz.prog w3 = .ok () w4 ∧
    (Instr.mapUpdate 184 (.map (some w0.heap.size)) (.string ⟨#[110, 101, 116]⟩) (.int .u8 6)).run Tryz.prog w4 = .ok () w5 ∧ MBlk w5 w0.heap.size kindsL 5 ∧ Below w0.heap.size w0 w5 := by
  have hT := Tryz.underlying184
  have hK := Tryz.underlying9
  have h0 : MBlk (w0.alloc (.map #[] 0)) w0.heap.size [] 0 := heap_alloc_new w0 _
  obtain ⟨w1, e1, _, _, k1, m1⟩ := update_sm (P := Tryz.prog) hT hK h0 ⟨#[117, 115, 101, 114]⟩ (by decide +kernel) (.int .u8 2)
  obtain ⟨w2, e2, _, _, k2, m2⟩ := update_sm (P := Tryz.prog) hT hK m1 ⟨#[103, 114, 111, 117, 112]⟩ (by decide +kernel) (.int .u8 3)
  obtain ⟨w3, e3, _, _, k3, m3⟩ := update_sm (P := Tryz.prog) hT hK m2 ⟨#[116, 97, 103]⟩ (by decide +kernel) (.int .u8 4)
  obtain ⟨w4, e4, _, _, k4, m4⟩ := update_sm (P := Tryz.prog) hT hK m3 ⟨#[104, 111, 115, 116]⟩ (by decide +kernel) (.int .u8 5)
  obtain ⟨w5, e5, _, _, k5, m5⟩ := update_sm (P := Tryz.prog) hT hK m4 ⟨#[110, 101, 116]⟩ (by decide +kernel) (.int .u8 6)
  refine ⟨w1, w2, w3, w4, w5, e1, e2, e3, e4, e5, m5, ?_⟩
  exact (boxed w0 _).trans (Keeps.below ((((k1.trans k2).trans k3).trans k4).trans k5) (fun k hk => by rw [hk]; exact Nat.le_refl _) (by simp))

def LkOk (m : Nat) (T : ByteArray) (K : Nat) (w : World) : Prop := (Instr.lookup 184 (.map (some m)) (.string T) false).run Tryz.prog w = .ok (.int .u8 (K : Int)) w
/- What sel hands back. -/
def SelGot (o : Option Sel) (w : World) (r : Ending) (w' : World) : Prop := (∃ s : Sel, r = .returned (.tuple #[.agg s.cells, .bool o.isSome]) ∧ ∀ x, o = some x → s = x) ∧ Below w.heap.size w w'

set_option maxHeartbeats 8000000 in
set_option maxRecDepth 100000 in
theorem sel_any {w : World} (env : Env w) (s : ByteArray) (hs : s.size ≤ 2000000) : Calls Tryz.prog 116 #[.string s] w (SelGot (selP s) w) := by
  have hB0 := Blk.new w 59 #[.int .u8 0, .string ⟨#[]⟩, .bool false, .int .u64 0, .int .u64 0, .int .u8 0]
  have hb0 := boxed w (.cells #[.int .u8 0, .string ⟨#[]⟩, .bool false, .int .u64 0, .int .u64 0, .int .u8 0] 59)
  by_cases hst : s = W_star
  · subst hst
    rw [show selP W_star = some ⟨1, ByteArray.empty, Pf.zero⟩ by unfold selP; rw [if_pos rfl]]
    unfold W_star
    clear env hs
    go_enter Tryz.func116, Tryz.ntmps116
    go_wp2_with fail
    refine bodyPost_ret (results_ct rfl rfl rfl (load_sel (Blk.new _ _ _))) rfl ⟨⟨⟨1, ByteArray.empty, Pf.zero⟩, rfl, fun x hx => by injection hx⟩, boxed _ _⟩
  · have hss : (s.toList == [42]) = false := by
      rw [beq_eq_false_iff_ne]
      intro h
      rw [ByteArray.toList_eq] at h
      exact hst (ByteArray.ext (Array.ext' h))
    have hmm := @run_makeMap Tryz.prog
    have hk := kinds_made (w.alloc (.cells #[.int .u8 0, .string ⟨#[]⟩, .bool false, .int .u64 0, .int .u64 0, .int .u8 0] 59))
    rw [show (w.alloc (.cells #[.int .u8 0, .string ⟨#[]⟩, .bool false, .int .u64 0, .int .u64 0, .int .u8 0] 59)).heap.size = w.heap.size + 1 by simp] at hk
    obtain ⟨w1, w2, w3, w4, w5, e1, e2, e3, e4, e5, hM, hbm⟩ := hk
    have hB5 := hB0.below hbm (by omega)
    have hb5 : Below w.heap.size w w5 := hb0.trans (hbm.mono (by omega))
    -- the word, cut
    obtain ⟨mx, hmx⟩ := (env.below hb5).mx
    have hcut := Tryz.strings_Cut s ⟨#[58]⟩ mx w5 (by omega) hmx
    have hcl := cut_len s.data.toList [58]
    rw [show (⟨#[58]⟩ : ByteArray).data.toList = [58] from rfl] at hcut
    obtain ⟨RES, hRES⟩ : ∃ r, r = selP s := ⟨_, rfl⟩
    rw [← hRES]
    unfold selP at hRES
    rw [if_neg hst] at hRES
    simp only at hRES
    generalize Lib.cut s.data.toList [58] = C at hcl hcut hRES
    obtain ⟨c1, c2, gap⟩ := C
    simp only at hcl hcut hRES
    rw [show s.data.toList.length = s.size from (Lib.size_eq s).symm] at hcl
    have hrd := fun v (hv : Below w.heap.size w v) => readPrefix_any (env.below hv) ⟨c2.toArray⟩ (by rw [show (⟨c2.toArray⟩ : ByteArray).size = c2.length by simp [ByteArray.size]]; omega)
    rw [show (⟨c2.toArray⟩ : ByteArray).data.toList = c2 from rfl] at hrd
    have hlab := fun v => label_any ⟨c2.toArray⟩ (by rw [show (⟨c2.toArray⟩ : ByteArray).size = c2.length by simp [ByteArray.size]]; omega) v
    rw [show labelB (⟨c2.toArray⟩ : ByteArray) = labelL c2 from rfl] at hlab
    have hlk : ∀ W, MBlk W (w.heap.size + 1) kindsL 5 → LkOk (w.heap.size + 1) ⟨c1.toArray⟩ (kindN c1) W := fun W h => kinds_lookup h ⟨c1.toArray⟩
    have hK6 : kindN c1 ≤ 6 := by
      by_cases h0 : 0 < kindN c1
      · rcases kindN_cases h0 with h | h | h | h | h <;> omega
      · omega
    generalize kindN c1 = K at hRES hlk hK6
    unfold ofL at hRES
    generalize (⟨c1.toArray⟩ : ByteArray) = T1 at hcut hlk
    generalize hT2 : (⟨c2.toArray⟩ : ByteArray) = T2 at hcut hrd hlab hRES
    have HCut := Lib.hid hcut
    have HRES := Lib.hid hRES
    have HRd := Lib.hid hrd
    have HLab := Lib.hid hlab
    have Hlk := Lib.hid hlk
    clear hcut hRES hrd hlab hlk env hmx hcl hst hT2
    go_enter Tryz.func116, Tryz.ntmps116
    go_upto_region 5 with (go_at_call 123; (with_reducible refine HCut.out.mono ?_); rintro r wq ⟨rfl, nq, rfl⟩)
    have hB6 : Blk (w5.drewN nq) w.heap.size 59 #[.int .u8 0, .string ⟨#[]⟩, .bool false, .int .u64 0, .int .u64 0, .int .u8 0] := hB5
    have hb6 : Below w.heap.size w (w5.drewN nq) := ⟨hb5.os, hb5.tape, hb5.output, hb5.size, hb5.block⟩
    have HM6 := Lib.hid (hM.drewN nq)
    clear e1 e2 e3 e4 e5 hmm hM hbm hB5 hb5 HCut hB0 hb0
    generalize w5.drewN nq = w6 at hB6 hb6 HM6 ⊢
    have hlk := Hlk.out w6 HM6.out
    unfold LkOk at hlk
    by_cases h6 : K = 6
    · subst h6
      have hR := HRES.out
      rw [if_pos rfl] at hR
      have HR6 := Lib.hid hR
      clear hR HRES HLab HM6
      have Hb6 := Lib.hid hb6
      have HB6 := Lib.hid hB6
      clear hb6 hB6
      go_upto_region 6 with fail
      cases hp : preadL c2 with
      | none =>
        rw [hp] at HRd HR6
        have HRd' : RowKit.Hid (∀ (v : World), Below w.heap.size w v → Calls Tryz.prog 95 #[.string T2] v (Got (.tuple #[.agg #[.bool false, .int .u64 0, .int .u64 0, .int .u8 0], .int .i64 8]) v)) := HRd
        go_upto_region 7 with (go_at_call 95; (with_reducible refine (HRd'.out _ Hb6.out).mono ?_); rintro r w7 ⟨rfl, d7⟩)
        have hB8 := (HB6.out.below d7 HB6.out.lt).alloc (.cells #[.bool false, .int .u64 0, .int .u64 0, .int .u8 0] 51)
        have hb8 := after (after Hb6.out d7) (boxed w7 (.cells #[.bool false, .int .u64 0, .int .u64 0, .int .u8 0] 51))
        have hP := Blk.new w7 51 #[.bool false, .int .u64 0, .int .u64 0, .int .u8 0]
        clear d7
        generalize w7.alloc (.cells #[.bool false, .int .u64 0, .int .u64 0, .int .u8 0] 51) = w8 at hB8 hb8 hP ⊢
        have b0 := hB8.cell 0
        have b1 := hB8.cell 1
        have b2 := hB8.cell 2
        have b3 := hB8.cell 3
        have b4 := hB8.cell 4
        have b5 := hB8.cell 5
        have z0 := hB8.frozen 0
        have z1 := hB8.frozen 1
        have z2 := hB8.frozen 2
        have z3 := hB8.frozen 3
        have z4 := hB8.frozen 4
        have z5 := hB8.frozen 5
        have p0 := hP.cell 0
        have p1 := hP.cell 1
        have p2 := hP.cell 2
        have p3 := hP.cell 3
        simp at b0 b1 b2 b3 b4 b5 p0 p1 p2 p3
        obtain ⟨q1, q2⟩ := sel_put (v0 := .int .u8 6) (v1 := .string ⟨#[]⟩) (v2 := .bool false) (v3 := .int .u64 0) (v4 := .int .u64 0) (v5 := .int .u8 0) hB8 hb8 (Nat.le_refl _)
        have Q1 := Lib.hid q1
        have Q2 := Lib.hid q2
        clear q1 q2
        go_wp2_with fail
        refine bodyPost_ret (results_ct rfl rfl rfl (load_sel Q1.out)) rfl ⟨⟨⟨6, ByteArray.empty, Pf.zero⟩, by rw [HR6.out]; rfl, fun x hx => by rw [HR6.out] at hx; cases hx⟩, Q2.out⟩
      | some n =>
        obtain ⟨⟨a1, a2, a3⟩, a4⟩ := n
        rw [hp] at HRd HR6
        have HRd' : RowKit.Hid (∀ (v : World), Below w.heap.size w v → Calls Tryz.prog 95 #[.string T2] v (Got (.tuple #[.agg #[.bool a1, .int .u64 (a2 : Int), .int .u64 (a3 : Int), .int .u8 (a4 : Int)], .int .i64 0]) v)) := HRd
        go_upto_region 7 with (go_at_call 95; (with_reducible refine (HRd'.out _ Hb6.out).mono ?_); rintro r w7 ⟨rfl, d7⟩)
        have hB8 := (HB6.out.below d7 HB6.out.lt).alloc (.cells #[.bool a1, .int .u64 (a2 : Int), .int .u64 (a3 : Int), .int .u8 (a4 : Int)] 51)
        have hb8 := after (after Hb6.out d7) (boxed w7 (.cells #[.bool a1, .int .u64 (a2 : Int), .int .u64 (a3 : Int), .int .u8 (a4 : Int)] 51))
        have hP := Blk.new w7 51 #[.bool a1, .int .u64 (a2 : Int), .int .u64 (a3 : Int), .int .u8 (a4 : Int)]
        clear d7
        generalize w7.alloc (.cells #[.bool a1, .int .u64 (a2 : Int), .int .u64 (a3 : Int), .int .u8 (a4 : Int)] 51) = w8 at hB8 hb8 hP ⊢
        have b0 := hB8.cell 0
        have b1 := hB8.cell 1
        have b2 := hB8.cell 2
        have b3 := hB8.cell 3
        have b4 := hB8.cell 4
        have b5 := hB8.cell 5
        have z0 := hB8.frozen 0
        have z1 := hB8.frozen 1
        have z2 := hB8.frozen 2
        have z3 := hB8.frozen 3
        have z4 := hB8.frozen 4
        have z5 := hB8.frozen 5
        have p0 := hP.cell 0
        have p1 := hP.cell 1
        have p2 := hP.cell 2
        have p3 := hP.cell 3
        simp at b0 b1 b2 b3 b4 b5 p0 p1 p2 p3
        obtain ⟨q1, q2⟩ := sel_put (v0 := .int .u8 6) (v1 := .string ⟨#[]⟩) (v2 := .bool a1) (v3 := .int .u64 (a2 : Int)) (v4 := .int .u64 (a3 : Int)) (v5 := .int .u8 (a4 : Int)) hB8 hb8 (Nat.le_refl _)
        have Q1 := Lib.hid q1
        have Q2 := Lib.hid q2
        clear q1 q2
        go_wp2_with fail
        refine bodyPost_ret (results_ct rfl rfl rfl (load_sel Q1.out)) rfl ⟨⟨⟨6, ByteArray.empty, ⟨⟨a1, a2, a3⟩, a4⟩⟩, by rw [HR6.out]; rfl, fun x hx => by rw [HR6.out] at hx; injection hx⟩, Q2.out⟩
    · have q6 : ((K : Int) == 6) = false := by simp; omega
      have hR := HRES.out
      rw [if_neg h6] at hR
      have HR6 := Lib.hid hR
      clear hR HRES HRd h6
      have hM := HM6.out
      have hgm : w.heap.size ≠ w.heap.size + 1 := by omega
      generalize hLB : labelL c2 = LB at HR6 HLab
      clear hLB
      by_cases h0 : 0 < K
      · have q0 : (0 : Int) < (K : Int) := by omega
        go_upto_region 8 with fail
        have b0 := hB6.cell 0
        have b1 := hB6.cell 1
        have b2 := hB6.cell 2
        have b3 := hB6.cell 3
        have b4 := hB6.cell 4
        have b5 := hB6.cell 5
        simp at b0 b1 b2 b3 b4 b5
        refine wp_region_held_drew (S := LkOk (w.heap.size + 1) T1 K) (by kernel_rfl) (Hlk.out w6.drew (show MBlk w6.drew (w.heap.size + 1) kindsL 5 from hM)) (fun hHeld => ?_)
        refine' wpAnyH_take (i := 0) (v := _) rfl (by kernel_rfl) (by kernel_rfl) (by kernel_rfl) (fun _ _ _ h => h) (Or.inl ⟨by rfl, ?ly1⟩) (by assumption) ?lrest1
        case ly1 =>
          intro w hSw
          unfold LkOk at hSw
          go_simp
          try with_reducible rfl
        try simp only [Ap]
        refine' wpAnyH_take (i := 1) (v := _) rfl (by kernel_rfl) (by kernel_rfl) (by kernel_rfl) (fun _ _ _ h => h) (Or.inl ⟨by rfl, ?ly2⟩) (by assumption) ?lrest2
        case ly2 =>
          intro w hSw
          unfold LkOk at hSw
          go_simp
          try with_reducible rfl
        try simp only [Ap]
        refine' wpAnyH_take (i := 2) (v := _) rfl (by kernel_rfl) (by kernel_rfl) (by kernel_rfl) (fun _ _ _ h => h) (Or.inl ⟨by rfl, ?ly3⟩) (by assumption) ?lrest3
        case ly3 =>
          intro w hSw
          unfold LkOk at hSw
          go_simp
          try with_reducible rfl
        try simp only [Ap]
        refine' wpAnyH_take (i := 3) (v := _) rfl (by kernel_rfl) (by kernel_rfl) (by kernel_rfl) (fun _ _ _ h => h) (Or.inl ⟨by rfl, ?ly4⟩) (by assumption) ?lrest4
        case ly4 =>
          intro w hSw
          unfold LkOk at hSw
          go_simp
          try with_reducible rfl
        try simp only [Ap]
        refine' wpAnyH_take (i := 4) (v := _) rfl (by kernel_rfl) (by kernel_rfl) (by kernel_rfl) (fun _ _ _ h => h) (Or.inl ⟨by rfl, ?ly5⟩) (by assumption) ?lrest5
        case ly5 =>
          intro w hSw
          unfold LkOk at hSw
          go_simp
          try with_reducible rfl
        try simp only [Ap]
        refine' wpAnyH_take (i := 5) (v := _) rfl (by kernel_rfl) (by kernel_rfl) (by kernel_rfl) (fun _ _ _ h => h) (Or.inl ⟨by rfl, ?ly6⟩) (by assumption) ?lrest6
        case ly6 =>
          intro w hSw
          unfold LkOk at hSw
          go_simp
          try with_reducible rfl
        try simp only [Ap]
        refine' wpAnyH_take (i := 6) (v := _) rfl (by kernel_rfl) (by kernel_rfl) (by kernel_rfl) (fun _ _ _ h => h) (Or.inl ⟨by rfl, ?ly7⟩) (by assumption) ?lrest7
        case ly7 =>
          intro w hSw
          unfold LkOk at hSw
          go_simp
          try with_reducible rfl
        try simp only [Ap]
        refine' wpAnyH_take (i := 7) (v := _) rfl (by kernel_rfl) (by kernel_rfl) (by kernel_rfl) (fun _ _ _ h => h) (Or.inl ⟨by rfl, ?ly8⟩) (by assumption) ?lrest8
        case ly8 =>
          intro w hSw
          unfold LkOk at hSw
          go_simp
          try with_reducible rfl
        try simp only [Ap]
        refine' wpAnyH_take (i := 8) (v := _) rfl (by kernel_rfl) (by kernel_rfl) (by kernel_rfl) (fun _ _ _ h => h) (Or.inl ⟨by rfl, ?ly9⟩) (by assumption) ?lrest9
        case ly9 =>
          intro w hSw
          unfold LkOk at hSw
          go_simp
          try with_reducible rfl
        try simp only [Ap]
        refine' wpAnyH_take (i := 9) (v := _) rfl (by kernel_rfl) (by kernel_rfl) (by kernel_rfl) (fun _ _ _ h => h) (Or.inl ⟨by rfl, ?ly10⟩) (by assumption) ?lrest10
        case ly10 =>
          intro w hSw
          unfold LkOk at hSw
          go_simp
          try with_reducible rfl
        try simp only [Ap]
        refine' wpAnyH_take (i := 10) (v := _) rfl (by kernel_rfl) (by kernel_rfl) (by kernel_rfl) (fun _ _ _ h => h) (Or.inl ⟨by rfl, ?ly11⟩) (by assumption) ?lrest11
        case ly11 =>
          intro w hSw
          unfold LkOk at hSw
          go_simp
          try with_reducible rfl
        try simp only [Ap]
        refine wpAnyH_ready (rs := [11]) (by kernel_rfl) (by simp) ?_
        refine AllReadyH.cons rfl (fun K hK => ?_) AllReadyH.nil
        go_simp
        refine (HLab.out _).mono ?_
        rintro r w9 ⟨rfl, d9⟩
        have hM := MBlk.below (show MBlk w6.drew (w.heap.size + 1) kindsL 5 from hM) d9 hM.lt
        have hB6 := Blk.below (show Blk w6.drew w.heap.size 59 _ from hB6) d9 hB6.lt
        have hb6 := after (show Below w.heap.size w w6.drew from ⟨hb6.os, hb6.tape, hb6.output, hb6.size, hb6.block⟩) d9
        have b0 := hB6.cell 0
        have b1 := hB6.cell 1
        have b2 := hB6.cell 2
        have b3 := hB6.cell 3
        have b4 := hB6.cell 4
        have b5 := hB6.cell 5
        simp at b0 b1 b2 b3 b4 b5
        have z0 := hB6.frozen 0
        have z1 := hB6.frozen 1
        have z2 := hB6.frozen 2
        have z3 := hB6.frozen 3
        have z4 := hB6.frozen 4
        have z5 := hB6.frozen 5
        refine hK.out _ _ (Hlk.out w9 hM) (fun hHeld => ?_)
        clear hK K
        try simp only [Ap]
        refine' wpAnyH_take (i := 12) (v := _) rfl (by kernel_rfl) (by kernel_rfl) (by kernel_rfl) (fun _ _ _ h => h) (Or.inl ⟨by rfl, ?ly13⟩) (by assumption) ?lrest13
        case ly13 =>
          intro w hSw
          unfold LkOk at hSw
          go_simp
          try with_reducible rfl
        try simp only [Ap]
        refine wpAnyH_ready (rs := [13]) (by kernel_rfl) (by simp) ?_
        refine AllReadyH.cons rfl (fun K hK => ?_) AllReadyH.nil
        go_simp
        refine hK.out _ _ (Hlk.out _ (MBlk.put6 hM hgm)) (fun hHeld => ?_)
        clear hK K
        try simp only [Ap]
        refine' wpAnyH_take (i := 14) (v := _) rfl (by kernel_rfl) (by kernel_rfl) (by kernel_rfl) (fun _ _ _ h => h) (Or.inl ⟨by rfl, ?ly15⟩) (by assumption) ?lrest15
        case ly15 =>
          intro w hSw
          unfold LkOk at hSw
          go_simp
          try with_reducible rfl
        try simp only [Ap]
        refine wpAnyH_done (by kernel_rfl) ?_ _
        go_wp2_with fail
        obtain ⟨q1, q2⟩ := sel_put (v0 := .int .u8 (K : Int)) (v1 := .string T2) (v2 := .bool false) (v3 := .int .u64 0) (v4 := .int .u64 0) (v5 := .int .u8 0) hB6 hb6 (Nat.le_refl _)
        refine bodyPost_ret (results_ct rfl rfl rfl (load_sel q1)) rfl ⟨⟨⟨K, T2, Pf.zero⟩, ?_, ?_⟩, q2⟩
        · rw [HR6.out]
          cases LB with
          | true => rw [if_pos ⟨h0, rfl⟩]; rfl
          | false => rw [if_neg (by simp)]; rfl
        · intro x hx
          rw [HR6.out] at hx
          split at hx
          · injection hx
          · cases hx
      · obtain rfl : K = 0 := by omega
        go_upto_region 8 with fail
        have b0 := hB6.cell 0
        have b1 := hB6.cell 1
        have b2 := hB6.cell 2
        have b3 := hB6.cell 3
        have b4 := hB6.cell 4
        have b5 := hB6.cell 5
        simp at b0 b1 b2 b3 b4 b5
        have z0 := hB6.frozen 0
        have z1 := hB6.frozen 1
        have z2 := hB6.frozen 2
        have z3 := hB6.frozen 3
        have z4 := hB6.frozen 4
        have z5 := hB6.frozen 5
        refine wp_region_held_drew (S := LkOk (w.heap.size + 1) T1 0) (by kernel_rfl) (Hlk.out w6.drew (show MBlk w6.drew (w.heap.size + 1) kindsL 5 from hM)) (fun hHeld => ?_)
        refine' wpAnyH_take (i := 0) (v := _) rfl (by kernel_rfl) (by kernel_rfl) (by kernel_rfl) (fun _ _ _ h => h) (Or.inl ⟨by rfl, ?ly16⟩) (by assumption) ?lrest16
        case ly16 =>
          intro w hSw
          unfold LkOk at hSw
          go_simp
          try with_reducible rfl
        try simp only [Ap]
        refine' wpAnyH_take (i := 1) (v := _) rfl (by kernel_rfl) (by kernel_rfl) (by kernel_rfl) (fun _ _ _ h => h) (Or.inl ⟨by rfl, ?ly17⟩) (by assumption) ?lrest17
        case ly17 =>
          intro w hSw
          unfold LkOk at hSw
          go_simp
          try with_reducible rfl
        try simp only [Ap]
        refine' wpAnyH_take (i := 2) (v := _) rfl (by kernel_rfl) (by kernel_rfl) (by kernel_rfl) (fun _ _ _ h => h) (Or.inl ⟨by rfl, ?ly18⟩) (by assumption) ?lrest18
        case ly18 =>
          intro w hSw
          unfold LkOk at hSw
          go_simp
          try with_reducible rfl
        try simp only [Ap]
        refine' wpAnyH_take (i := 3) (v := _) rfl (by kernel_rfl) (by kernel_rfl) (by kernel_rfl) (fun _ _ _ h => h) (Or.inl ⟨by rfl, ?ly19⟩) (by assumption) ?lrest19
        case ly19 =>
          intro w hSw
          unfold LkOk at hSw
          go_simp
          try with_reducible rfl
        try simp only [Ap]
        refine' wpAnyH_take (i := 4) (v := _) rfl (by kernel_rfl) (by kernel_rfl) (by kernel_rfl) (fun _ _ _ h => h) (Or.inl ⟨by rfl, ?ly20⟩) (by assumption) ?lrest20
        case ly20 =>
          intro w hSw
          unfold LkOk at hSw
          go_simp
          try with_reducible rfl
        try simp only [Ap]
        refine' wpAnyH_take (i := 5) (v := _) rfl (by kernel_rfl) (by kernel_rfl) (by kernel_rfl) (fun _ _ _ h => h) (Or.inl ⟨by rfl, ?ly21⟩) (by assumption) ?lrest21
        case ly21 =>
          intro w hSw
          unfold LkOk at hSw
          go_simp
          try with_reducible rfl
        try simp only [Ap]
        refine' wpAnyH_take (i := 6) (v := _) rfl (by kernel_rfl) (by kernel_rfl) (by kernel_rfl) (fun _ _ _ h => h) (Or.inl ⟨by rfl, ?ly22⟩) (by assumption) ?lrest22
        case ly22 =>
          intro w hSw
          unfold LkOk at hSw
          go_simp
          try with_reducible rfl
        try simp only [Ap]
        refine' wpAnyH_take (i := 7) (v := _) rfl (by kernel_rfl) (by kernel_rfl) (by kernel_rfl) (fun _ _ _ h => h) (Or.inl ⟨by rfl, ?ly23⟩) (by assumption) ?lrest23
        case ly23 =>
          intro w hSw
          unfold LkOk at hSw
          go_simp
          try with_reducible rfl
        try simp only [Ap]
        refine' wpAnyH_take (i := 8) (v := _) rfl (by kernel_rfl) (by kernel_rfl) (by kernel_rfl) (fun _ _ _ h => h) (Or.inl ⟨by rfl, ?ly24⟩) (by assumption) ?lrest24
        case ly24 =>
          intro w hSw
          unfold LkOk at hSw
          go_simp
          try with_reducible rfl
        try simp only [Ap]
        refine' wpAnyH_take (i := 9) (v := _) rfl (by kernel_rfl) (by kernel_rfl) (by kernel_rfl) (fun _ _ _ h => h) (Or.inl ⟨by rfl, ?ly25⟩) (by assumption) ?lrest25
        case ly25 =>
          intro w hSw
          unfold LkOk at hSw
          go_simp
          try with_reducible rfl
        try simp only [Ap]
        refine tU 10 ?_; try simp only [Ap]
        refine tU 11 ?_; try simp only [Ap]
        refine' wpAnyH_take (i := 12) (v := _) rfl (by kernel_rfl) (by kernel_rfl) (by kernel_rfl) (fun _ _ _ h => h) (Or.inl ⟨by rfl, ?ly28⟩) (by assumption) ?lrest28
        case ly28 =>
          intro w hSw
          unfold LkOk at hSw
          go_simp
          try with_reducible rfl
        try simp only [Ap]
        refine wpAnyH_ready (rs := [13]) (by kernel_rfl) (by simp) ?_
        refine AllReadyH.cons rfl (fun K hK => ?_) AllReadyH.nil
        go_simp
        refine hK.out _ _ (Hlk.out _ (MBlk.put6 hM hgm).drw) (fun hHeld => ?_)
        clear hK K
        try simp only [Ap]
        refine' wpAnyH_take (i := 14) (v := _) rfl (by kernel_rfl) (by kernel_rfl) (by kernel_rfl) (fun _ _ _ h => h) (Or.inl ⟨by rfl, ?ly30⟩) (by assumption) ?lrest30
        case ly30 =>
          intro w hSw
          unfold LkOk at hSw
          go_simp
          try with_reducible rfl
        try simp only [Ap]
        refine wpAnyH_done (by kernel_rfl) ?_ _
        go_wp2_with fail
        obtain ⟨q1, q2⟩ := sel_put (v0 := .int .u8 0) (v1 := .string T2) (v2 := .bool false) (v3 := .int .u64 0) (v4 := .int .u64 0) (v5 := .int .u8 0) hB6 hb6 (Nat.le_refl _)
        refine bodyPost_ret (results_ct rfl rfl rfl (load_sel q1.drew)) rfl ⟨⟨⟨0, T2, Pf.zero⟩, ?_, ?_⟩, q2.drew⟩
        · rw [HR6.out, if_neg (by simp)]
          rfl
        · intro x hx
          rw [HR6.out, if_neg (by simp)] at hx
          cases hx
end Go.Proofs.YtbiglifngfgffaaGreatDoor

/- FormatUint of base 10; a port (port): the walks. -/
namespace Go.Proofs.YtbiglifngfgffaaGreatDoor
open Go.RowKit Go.Sort

set_option maxHeartbeats 4000000 in
set_option maxRecDepth 100000 in
theorem fmt10_in {w : World} (env : Env w) (u : Nat) (hu : u < 65536) : Calls Tryz.prog 118 #[.int .u64 (u : Int), .int .i64 10] w (Got (.string ⟨(Lib.decDigits u).toArray⟩) w) := by
  by_cases hs : u < 100
  · have q1 : (u : Int) < 100 := by omega
    have HS := Lib.hid fun v => Tryz.internal_strconv_small u hs v
    have hb0 := Below.refl w.heap.size w
    clear hs env
    go_enter Tryz.func118, Tryz.ntmps118
    go_wp2_with (go_at_call 132; (with_reducible refine (HS.out _).mono ?_); rintro r w2 ⟨rfl, rfl⟩)
    go_ret
    exact ⟨rfl, hb0⟩
  · have q1 : ¬ (u : Int) < 100 := by omega
    have hu1 : 1 ≤ u := by omega
    have hu64 : u < 18446744073709551616 := by omega
    have hnd20 : Lib.nDigits u ≤ 20 := by have := Lib.numDigits_eq u hu1 hu64; split at this <;> omega
    have hal : Tryz.prog.arrayLen 191 = 24 := by simp [Program.arrayLen, Tryz.underlying191]
    have hsl : ∀ W, (Instr.sliceAt 191 (.pointer (some ⟨w.heap.size, 0, none⟩)) none (some (.int .i64 (Lib.nDigits u : Int))) none).run Tryz.prog W = .ok (.slice (some ⟨w.heap.size, 0, none⟩) (Lib.nDigits u) 24) W := fun W => by
      rw [run_sliceAt_array_h W 191 ⟨w.heap.size, 0, none⟩ (by simp [Program.arrayLen, Program.elem, Tryz.underlying191]) .i64 (Lib.nDigits u : Int) (by omega) (by rw [hal]; omega)]
      go_simp
      try omega
    have hH0 := Lib.holds_zero0 w 191 (Lib.nDigits u) (by omega)
    have hfmt := Tryz.internal_strconv_formatBase10 w.heap.size 0 24 u (Array.replicate (Lib.nDigits u) 0) (w.alloc (.cells Lib.zeros24 191)) hH0 (by rw [Array.size_replicate]; exact Lib.lt_pow_nDigits u) hu64 (by rw [Array.size_replicate]; omega)
    rw [Array.size_replicate] at hfmt
    rw [show Lib.zeros24 = #[.int .u8 0, .int .u8 0, .int .u8 0, .int .u8 0, .int .u8 0, .int .u8 0, .int .u8 0, .int .u8 0, .int .u8 0, .int .u8 0, .int .u8 0, .int .u8 0, .int .u8 0, .int .u8 0, .int .u8 0, .int .u8 0, .int .u8 0, .int .u8 0, .int .u8 0, .int .u8 0, .int .u8 0, .int .u8 0, .int .u8 0, .int .u8 0] from rfl] at hfmt hH0
    have HH0 := Lib.hid hH0
    have HF := Lib.hid hfmt
    have HN := Lib.hid fun v (hv : Below w.heap.size w v) => Tryz.internal_strconv_numDigits u hu1 hu64 v (env.below hv).pow
    have hba := boxed w (.cells #[.int .u8 0, .int .u8 0, .int .u8 0, .int .u8 0, .int .u8 0, .int .u8 0, .int .u8 0, .int .u8 0, .int .u8 0, .int .u8 0, .int .u8 0, .int .u8 0, .int .u8 0, .int .u8 0, .int .u8 0, .int .u8 0, .int .u8 0, .int .u8 0, .int .u8 0, .int .u8 0, .int .u8 0, .int .u8 0, .int .u8 0, .int .u8 0] 191)
    clear hH0 hal hfmt env hs hu hu1 hu64
    go_enter Tryz.func118, Tryz.ntmps118
    go_wp2_with (go_at_call 133; (with_reducible refine (HN.out _ hba).mono ?_); rintro r w2 ⟨rfl, rfl⟩)
    go_at_call 134
    refine HF.out.mono ?_
    rintro e W ⟨rfl, k, v', dk, hW, hF⟩
    have hcv : (convert 40 9 (.slice (some ⟨w.heap.size, 0, none⟩) (Lib.nDigits u) 24)).run Tryz.prog W = .ok (.string ⟨(Lib.decDigits u).toArray⟩) W := by
      have h := run_convert_bytes_back (P := Tryz.prog) W 40 9 5 ⟨w.heap.size, 0, none⟩ 24 (Lib.decDigits u) Tryz.underlying40 Tryz.underlying5 Tryz.underlying9 (fun j hj => by
        rw [hW, Lib.row_is_numeral hF j hj, Lib.add_plain, World.cell?_drewN]
        exact cell?_putRow (fun (b : UInt8) => Value.int .u8 (b.toNat : Int)) _ w.heap.size 0 _ dk HH0.out (by rw [hF.size, Array.size_replicate]) j (by rw [hF.size]; rw [Lib.decDigits_length] at hj; exact hj))
      rw [Lib.decDigits_length] at h
      exact h
    have hbW : Below w.heap.size w W := by
      rw [hW]
      obtain ⟨os, eo⟩ := Lib.fin_at w (.cells #[.int .u8 0, .int .u8 0, .int .u8 0, .int .u8 0, .int .u8 0, .int .u8 0, .int .u8 0, .int .u8 0, .int .u8 0, .int .u8 0, .int .u8 0, .int .u8 0, .int .u8 0, .int .u8 0, .int .u8 0, .int .u8 0, .int .u8 0, .int .u8 0, .int .u8 0, .int .u8 0, .int .u8 0, .int .u8 0, .int .u8 0, .int .u8 0] 191) dk k 0
      rw [eo]
      exact Lib.below_grow _ _ (Nat.le_refl _) _ _
    clear hW hF
    go_wp2_with fail
    go_ret
    exact ⟨rfl, hbW⟩

theorem fmt10 {w : World} (env : Env w) (u : Nat) (hu : u < 65536) : Calls Tryz.prog 86 #[.int .u64 (u : Int), .int .i64 10] w (Got (.string ⟨(Lib.decDigits u).toArray⟩) w) := by
  have H := Lib.hid (fmt10_in env u hu)
  clear env
  go_enter Tryz.func86, Tryz.ntmps86
  go_wp2_with (go_at_call 118; (with_reducible refine H.out.mono ?_); rintro r w2 ⟨rfl, d2⟩)
  go_ret
  exact ⟨rfl, d2⟩
theorem pu10_16 {w : World} (env : Env w) (t : ByteArray) (hs : t.size ≤ 4000000) : Calls Tryz.prog 125 #[.string t, .int .i64 10, .int .i64 16] w (PuGot 10 65536 t.data.toList w) := by
  have hn := num1_B (B := 16) (by decide) t.data.toList
  rcases h : Lib.parseUintB 16 t.data.toList with u | _ | _
  · rw [h] at hn
    refine (Tryz.strconv_ParseUint_10_at16_ok t (by omega) u h w).mono ?_
    rintro e w' ⟨rfl, hw⟩
    refine ⟨Or.inl ⟨u, hn, rfl⟩, ?_⟩
    rcases hw with rfl | rfl
    · exact Below.refl _ _
    · exact Lib.bytesWorld_below _ _ _
  · rw [h] at hn
    obtain ⟨tp, p, hv⟩ := env.es
    refine (Any.strconv_ParseUint_10_at16_syntax Tryz.laysPu14 t (by omega) h (.iface tp p) w hv (Or.inr ⟨tp, p, rfl⟩)).mono ?_
    rintro e w' ⟨N, rfl, _, _, hb⟩
    exact ⟨Or.inr ⟨hn, 0, _, _, by decide, rfl⟩, hb⟩
  · rw [h] at hn
    obtain ⟨tp, p, hv⟩ := env.er
    refine (Tryz.strconv_ParseUint_10_at16_range t (by omega) h (.iface tp p) w hv (Or.inr ⟨tp, p, rfl⟩)).mono ?_
    rintro e w' ⟨N, rfl, _, _, hb⟩
    exact ⟨Or.inr ⟨hn, 65535, _, _, by decide, rfl⟩, hb⟩

/- A port: its number where it is one; else some number and false. -/
def PortGot (o : Option Nat) (w : World) (r : Ending) (w' : World) : Prop := (∃ n : Nat, n < 65536 ∧ r = .returned (.tuple #[.int .u16 (n : Int), .bool o.isSome]) ∧ ∀ x, o = some x → n = x) ∧ Below w.heap.size w w'

set_option maxHeartbeats 4000000 in
set_option maxRecDepth 100000 in
theorem port_any {w : World} (env : Env w) (s : ByteArray) (hs : s.size ≤ 4000000) : Calls Tryz.prog 126 #[.string s] w (PortGot (portN s.data.toList) w) := by
  have hpu := pu10_16 env s hs
  have hfm := fun v (hv : Below w.heap.size w v) u hu => fmt10 (env.below hv) u hu
  have HPU := Lib.hid hpu
  have HFM := Lib.hid hfm
  obtain ⟨R, hR⟩ : ∃ r, r = portN s.data.toList := ⟨_, rfl⟩
  rw [← hR]
  have HR := Lib.hid hR
  clear hpu hfm env hR hs
  go_enter Tryz.func126, Tryz.ntmps126
  go_wp2_with fail
  go_at_call 125
  refine HPU.out.mono ?_
  rintro e w1 ⟨⟨n, hn, rfl⟩ | ⟨hn, n, tp, p, hn64, rfl⟩, hb⟩
  · have hlt := num1_lt hn
    have hres : R = if Lib.decDigits n = s.data.toList then some n else none := by
      rw [HR.out]
      unfold portN
      rw [hn]
      rfl
    have hss : ((⟨(Lib.decDigits n).toArray⟩ : ByteArray).toList == s.toList) = decide (Lib.decDigits n = s.data.toList) := by
      rw [ByteArray.toList_eq, ByteArray.toList_eq]
      by_cases e : Lib.decDigits n = s.data.toList
      · rw [decide_eq_true e]
        simp [e]
      · rw [decide_eq_false e, beq_eq_false_iff_ne]
        exact e
    have HF := Lib.hid (HFM.out w1 hb n hlt)
    have HRes := Lib.hid hres
    obtain ⟨D, hD⟩ : ∃ d, d = decide (Lib.decDigits n = s.data.toList) := ⟨_, rfl⟩
    rw [← hD] at hss
    have HD := Lib.hid hD
    have i1 : IntKind.u16.wrap (n : Int) = (n : Int) := by rw [IntKind.wrap_u16]; omega
    generalize (⟨(Lib.decDigits n).toArray⟩ : ByteArray) = TT at hss HF
    have Hb := Lib.hid hb
    clear hn hres hD hb HR HPU HFM
    go_wp2_with (go_at_call 86; (with_reducible refine HF.out.mono ?_); rintro r w2 ⟨rfl, d2⟩)
    go_ret2
    refine ⟨⟨n, hlt, ?_, fun x hx => ?_⟩, after Hb.out d2⟩
    · rw [HRes.out, HD.out]
      by_cases e : Lib.decDigits n = s.data.toList
      · rw [if_pos e, decide_eq_true e]; rfl
      · rw [if_neg e, decide_eq_false e]; rfl
    · rw [HRes.out] at hx
      split at hx
      · injection hx
      · cases hx
  · have hres : R = none := by
      rw [HR.out]
      unfold portN
      rw [hn]
      rfl
    have HRes := Lib.hid hres
    have Hb := Lib.hid hb
    obtain ⟨M, hM⟩ : ∃ M : Nat, IntKind.u16.wrap (n : Int) = (M : Int) ∧ M < 65536 := ⟨n % 65536, by rw [IntKind.wrap_u16]; omega, by omega⟩
    have i1 := hM.1
    clear hn hres hb HR HPU HFM
    go_wp2_with fail
    go_ret2
    refine ⟨⟨M, hM.2, ?_, fun x hx => ?_⟩, Hb.out⟩
    · rw [HRes.out]; rfl
    · rw [HRes.out] at hx; cases hx
end Go.Proofs.YtbiglifngfgffaaGreatDoor

/- Ports (ports), what is known (known): the walks. -/
namespace Go.Proofs.YtbiglifngfgffaaGreatDoor
open Go.RowKit
attribute [local go_sem ↓] Go.wp_at_zero Go.wp_at_succ

def PortsGot (o : Option (Nat × Nat)) (w : World) (r : Ending) (w' : World) : Prop := (∃ a b : Nat, a < 65536 ∧ b < 65536 ∧ r = .returned (.tuple #[.agg #[.int .u16 (a : Int), .int .u16 (b : Int)], .bool o.isSome]) ∧ ∀ x, o = some x → x = (a, b)) ∧ Below w.heap.size w w'
theorem load_po {w : World} {g : Nat} {a b : Value} (h : Blk w g 104 #[a, b]) : (loadVar 104 ⟨g, 0, none⟩).run Tryz.prog w = .ok (.agg #[a, b]) w := by
  have h0 := h.cell 0
  have h1 := h.cell 1
  simp at h0 h1
  simp [loadVar, go_sem, h0, h1]
theorem ports_res (o1 o2 : Option Nat) (n1 n2 : Nat) (R : Option (Nat × Nat)) (hR : R = match o1, o2 with
    | some a, some b => if a ≤ b then some (a, b) else none
    | _, _ => none) (h1 : ∀ x, o1 = some x → n1 = x) (h2 : ∀ x, o2 = some x → n2 = x) : R.isSome = (o1.isSome && o2.isSome && decide (n1 ≤ n2)) ∧ ∀ x, R = some x → x = (n1, n2) := by
  subst hR
  cases o1 with
  | none => exact ⟨rfl, fun x hx => by cases hx⟩
  | some a =>
    cases o2 with
    | none => exact ⟨rfl, fun x hx => by cases hx⟩
    | some b =>
      obtain rfl := h1 _ rfl
      obtain rfl := h2 _ rfl
      by_cases h : n1 ≤ n2
      · simp [h]
      · simp [h]
set_option maxHeartbeats 4000000 in
set_option maxRecDepth 100000 in
theorem ports_any {w : World} (env : Env w) (s : ByteArray) (hs : s.size ≤ 2000000) : Calls Tryz.prog 98 #[.string s] w (PortsGot (portsP s) w) := by
  have hB0 := Blk.new w 104 #[.int .u16 0, .int .u16 0]
  have hb0 := boxed w (.cells #[.int .u16 0, .int .u16 0] 104)
  obtain ⟨mx, hmx⟩ := (env.below hb0).mx
  have hcut := Tryz.strings_Cut s ⟨#[45]⟩ mx _ (by omega) hmx
  have hcl := cut_len s.data.toList [45]
  rw [show (⟨#[45]⟩ : ByteArray).data.toList = [45] from rfl] at hcut
  obtain ⟨RES, hRES⟩ : ∃ r, r = portsP s := ⟨_, rfl⟩
  rw [← hRES]
  unfold portsP at hRES
  simp only at hRES
  generalize Lib.cut s.data.toList [45] = C at hcl hcut hRES
  obtain ⟨c1, c2, gap⟩ := C
  simp only at hcl hcut hRES
  rw [show s.data.toList.length = s.size from (Lib.size_eq s).symm] at hcl
  have hp1 := fun v (hv : Below w.heap.size w v) => port_any (env.below hv) ⟨c1.toArray⟩ (by rw [show (⟨c1.toArray⟩ : ByteArray).size = c1.length by simp [ByteArray.size]]; omega)
  have hp2 := fun v (hv : Below w.heap.size w v) => port_any (env.below hv) ⟨(if gap = true then c2 else c1).toArray⟩ (by rw [show (⟨(if gap = true then c2 else c1).toArray⟩ : ByteArray).size = (if gap = true then c2 else c1).length by simp [ByteArray.size]]; split <;> omega)
  rw [show (⟨c1.toArray⟩ : ByteArray).data.toList = c1 from rfl] at hp1
  rw [show (⟨(if gap = true then c2 else c1).toArray⟩ : ByteArray).data.toList = (if gap = true then c2 else c1) from rfl] at hp2
  have HP1 := Lib.hid hp1
  have HRES := Lib.hid hRES
  have Hb0 := Lib.hid hb0
  have HB0 := Lib.hid hB0
  have HCut := Lib.hid hcut
  clear hp1 hRES hcut hcl hmx env hb0 hB0
  obtain ⟨X, hX⟩ : ∃ X, X = (if gap = true then c2 else c1) := ⟨_, rfl⟩
  rw [← hX] at hp2 HRES
  have HP2 := Lib.hid hp2
  clear hp2
  go_enter Tryz.func98, Tryz.ntmps98
  go_upto_region 2 with (go_at_call 123; (with_reducible refine HCut.out.mono ?_); rintro r wq ⟨rfl, nq, rfl⟩)
  obtain ⟨w1, hw1⟩ : ∃ w1, w1 = ((w.alloc (.cells #[.int .u16 0, .int .u16 0] 104)).drewN nq) := ⟨_, rfl⟩
  have Hb1 : RowKit.Hid (Below w.heap.size w w1) := by subst hw1; exact Lib.hid ⟨Hb0.out.os, Hb0.out.tape, Hb0.out.output, Hb0.out.size, Hb0.out.block⟩
  have HB1 : RowKit.Hid (Blk w1 w.heap.size 104 #[.int .u16 0, .int .u16 0]) := by subst hw1; exact HB0
  rw [← hw1]
  clear hw1 Hb0 HB0 HCut
  cases gap with
  | true =>
    simp only [if_true] at hX
    subst hX
    go_upto_region 4 with fail
    go_upto_region 5 with (go_at_call 126; (with_reducible refine (HP1.out _ Hb1.out).mono ?_); rintro r w2 ⟨⟨n1, hn1, rfl, hx1⟩, d2⟩)
    have Hb2 := Lib.hid (after Hb1.out d2)
    have HB2 := Lib.hid (HB1.out.below d2 HB1.out.lt)
    clear d2 Hb1 HB1 HP1
    have Hx1 := Lib.hid hx1
    clear hx1
    go_upto_region 6 with (go_at_call 126; (with_reducible refine (HP2.out _ Hb2.out).mono ?_); rintro r w3 ⟨⟨n2, hn2, rfl, hx2⟩, d3⟩)
    have Hb3 := Lib.hid (after Hb2.out d3)
    have HB3 := Lib.hid (HB2.out.below d3 HB2.out.lt)
    have Hx2 := Lib.hid hx2
    clear d3 Hb2 HB2 HP2 hx2
    have b0 := HB3.out.cell 0
    have b1 := HB3.out.cell 1
    have z0 := HB3.out.frozen 0
    have z1 := HB3.out.frozen 1
    simp at b0 b1 z0 z1
    go_wp2_with fail
    all_goals
      obtain ⟨e1, e2⟩ := ports_res _ _ n1 n2 RES HRES.out Hx1.out Hx2.out
      have s0 : Blk (w3.setCell ⟨w.heap.size, 0, none⟩ (.int .u16 (n1 : Int))) w.heap.size 104 #[.int .u16 (n1 : Int), .int .u16 0] := HB3.out.set_ 0 _
      have s1 : Blk ((w3.setCell ⟨w.heap.size, 0, none⟩ (.int .u16 (n1 : Int))).setCell ⟨w.heap.size, 1, none⟩ (.int .u16 (n2 : Int))) w.heap.size 104 #[.int .u16 (n1 : Int), .int .u16 (n2 : Int)] := s0.set_ 1 _
      have q := (Hb3.out.setCell (p := ⟨w.heap.size, 0, none⟩) (Nat.le_refl _) (.int .u16 (n1 : Int))).setCell (p := ⟨w.heap.size, 1, none⟩) (Nat.le_refl _) (.int .u16 (n2 : Int))
      refine bodyPost_ret (results_ct rfl rfl rfl (load_po s1)) rfl ⟨⟨n1, n2, hn1, hn2, ?_, e2⟩, q⟩
      rw [e1]
      simp [*]
  | false =>
    simp only [Bool.false_eq_true, if_false] at hX
    subst hX
    go_upto_region 4 with fail
    go_upto_region 5 with (go_at_call 126; (with_reducible refine (HP1.out _ Hb1.out).mono ?_); rintro r w2 ⟨⟨n1, hn1, rfl, hx1⟩, d2⟩)
    have Hb2 := Lib.hid (after Hb1.out d2)
    have HB2 := Lib.hid (HB1.out.below d2 HB1.out.lt)
    clear d2 Hb1 HB1 HP1
    have Hx1 := Lib.hid hx1
    clear hx1
    go_upto_region 6 with (go_at_call 126; (with_reducible refine (HP2.out _ Hb2.out).mono ?_); rintro r w3 ⟨⟨n2, hn2, rfl, hx2⟩, d3⟩)
    have Hb3 := Lib.hid (after Hb2.out d3)
    have HB3 := Lib.hid (HB2.out.below d3 HB2.out.lt)
    have Hx2 := Lib.hid hx2
    clear d3 Hb2 HB2 HP2 hx2
    have b0 := HB3.out.cell 0
    have b1 := HB3.out.cell 1
    have z0 := HB3.out.frozen 0
    have z1 := HB3.out.frozen 1
    simp at b0 b1 z0 z1
    go_wp2_with fail
    all_goals
      obtain ⟨e1, e2⟩ := ports_res _ _ n1 n2 RES HRES.out Hx1.out Hx2.out
      have s0 : Blk (w3.setCell ⟨w.heap.size, 0, none⟩ (.int .u16 (n1 : Int))) w.heap.size 104 #[.int .u16 (n1 : Int), .int .u16 0] := HB3.out.set_ 0 _
      have s1 : Blk ((w3.setCell ⟨w.heap.size, 0, none⟩ (.int .u16 (n1 : Int))).setCell ⟨w.heap.size, 1, none⟩ (.int .u16 (n2 : Int))) w.heap.size 104 #[.int .u16 (n1 : Int), .int .u16 (n2 : Int)] := s0.set_ 1 _
      have q := (Hb3.out.setCell (p := ⟨w.heap.size, 0, none⟩) (Nat.le_refl _) (.int .u16 (n1 : Int))).setCell (p := ⟨w.heap.size, 1, none⟩) (Nat.le_refl _) (.int .u16 (n2 : Int))
      refine bodyPost_ret (results_ct rfl rfl rfl (load_po s1)) rfl ⟨⟨n1, n2, hn1, hn2, ?_, e2⟩, q⟩
      rw [e1]
      simp [*]
end Go.Proofs.YtbiglifngfgffaaGreatDoor

/- Protocols (protos): the walk. -/
namespace Go.Proofs.YtbiglifngfgffaaGreatDoor
open Go.RowKit
attribute [local go_sem ↓] Go.wp_at_zero Go.wp_at_succ

/- A text in pieces. -/
def splitP (c : UInt8) (s : ByteArray) : List ByteArray := (split1 c s.data.toList).map ofL
theorem splitP_lists (c : UInt8) (s : ByteArray) : (splitP c s).map (·.data.toList) = split1 c s.data.toList := by
  unfold splitP
  rw [List.map_map]
  exact List.map_id _
theorem splitP_size {c : UInt8} {s : ByteArray} : ∀ t ∈ splitP c s, t.size ≤ s.size := by
  intro t ht
  obtain ⟨x, hx, rfl⟩ := List.mem_map.1 ht
  have := split1_size hx
  rw [show s.data.toList.length = s.size from (Lib.size_eq s).symm] at this
  show (x.toArray).size ≤ s.size
  rw [List.size_toArray]
  exact this
theorem splitP_length (c : UInt8) (s : ByteArray) : (splitP c s).length ≤ s.size + 1 := by
  unfold splitP
  rw [List.length_map]
  have := split1_length c s.data.toList
  rw [show s.data.toList.length = s.size from (Lib.size_eq s).symm] at this
  omega
theorem split_call {w : World} (env : Env w) (s : ByteArray) (hs : s.size ≤ 2000000) (c : UInt8) : Calls Tryz.prog 26 #[.string s, .string ⟨#[c]⟩] w fun r w' => r = .returned (.slice (some ⟨w.heap.size, 0, none⟩) (splitP c s).length (splitP c s).length) ∧ w' = w.alloc (.cells ((splitP c s).map Value.string).toArray 9) := by
  obtain ⟨m, hm⟩ := env.mx
  have HS := Tryz.strings_Split s ⟨#[c]⟩ m w (by omega) hm (show 1 ≤ 1 from Nat.le_refl _)
  have hsp := splitB_one s ⟨#[c]⟩ c rfl
  have hP : Lib.splitB ⟨#[c]⟩ 0 (Lib.countB s ⟨#[c]⟩) s = splitP c s := by
    unfold splitP
    rw [← hsp, List.map_map]
    exact (List.map_id _).symm
  have hcount : Lib.countB s ⟨#[c]⟩ + 1 = (splitP c s).length := by
    have := Lib.splitB_all (⟨#[c]⟩ : ByteArray) (show 1 ≤ 1 from Nat.le_refl _) 0 (Lib.countB s ⟨#[c]⟩) s rfl
    rw [hP] at this
    omega
  rw [hcount, hP] at HS
  exact HS.mono fun r w' h => h
def protosL : List SE := [⟨W_icmp, .int .u8 1, 0⟩, ⟨W_tcp, .int .u8 6, 1⟩, ⟨W_udp, .int .u8 17, 2⟩]
theorem protos_lookup {w : World} {m clock : Nat} (h : MBlk w m protosL clock) (s : ByteArray) : (Instr.lookup 184 (.map (some m)) (.string s) false).run Tryz.prog w = .ok (.int .u8 (protoN s.data.toList : Int)) w := by
  have hT := Tryz.underlying184
  have hK := Tryz.underlying9
  unfold protoN
  rw [ofL_back]
  by_cases e1 : s = W_icmp
  · subst e1
    rw [if_pos rfl]
    exact run_lookup1 hT hK h _ (j := 0) (x := ⟨W_icmp, .int .u8 1, 0⟩) (by decide +kernel) rfl
  rw [if_neg e1]
  by_cases e2 : s = W_tcp
  · subst e2
    rw [if_pos rfl]
    exact run_lookup1 hT hK h _ (j := 1) (x := ⟨W_tcp, .int .u8 6, 1⟩) (by decide +kernel) rfl
  rw [if_neg e2]
  by_cases e3 : s = W_udp
  · subst e3
    rw [if_pos rfl]
    exact run_lookup1 hT hK h _ (j := 2) (x := ⟨W_udp, .int .u8 17, 2⟩) (by decide +kernel) rfl
  rw [if_neg e3]
  refine run_lookup1_none hT hK h s ?_ (Tryz.zeroValue5 w)
  unfold at_ protosL
  simp only [List.findIdx?_cons, List.findIdx?_nil]
  rw [beq_false_of (Ne.symm e1), beq_false_of (Ne.symm e2), beq_false_of (Ne.symm e3)]
  rfl
theorem protos_made (w0 : World) : ∃ w1 w2 w3 : World, (Instr.mapUpdate 184 (.map (some w0.heap.size)) (.string ⟨#[105, 99, 109, 112]⟩) (.int .u8 1)).run Tryz.prog (w0.alloc (.map #[] 0)) = .ok () w1 ∧
    (Instr.mapUpdate 184 (.map (some w0.heap.size)) (.string ⟨#[116, 99, 112]⟩) (.int .u8 6)).run Tryz.prog w1 = .ok () w2 ∧
    (Instr.mapUpdate 184 (.map (some w0.heap.size)) (.string ⟨#[117, 100, 112]⟩) (.int .u8 17)).run Tryz.prog w2 = .ok () w3 ∧ MBlk w3 w0.heap.size protosL 3 ∧ Below w0.heap.size w0 w3 := by
  have hT := Tryz.underlying184
  have hK := Tryz.underlying9
  have h0 : MBlk (w0.alloc (.map #[] 0)) w0.heap.size [] 0 := heap_alloc_new w0 _
  obtain ⟨w1, e1, _, _, k1, m1⟩ := update_sm (P := Tryz.prog) hT hK h0 ⟨#[105, 99, 109, 112]⟩ (by decide +kernel) (.int .u8 1)
  obtain ⟨w2, e2, _, _, k2, m2⟩ := update_sm (P := Tryz.prog) hT hK m1 ⟨#[116, 99, 112]⟩ (by decide +kernel) (.int .u8 6)
  obtain ⟨w3, e3, _, _, k3, m3⟩ := update_sm (P := Tryz.prog) hT hK m2 ⟨#[117, 100, 112]⟩ (by decide +kernel) (.int .u8 17)
  refine ⟨w1, w2, w3, e1, e2, e3, m3, ?_⟩
  exact (boxed w0 _).trans (Keeps.below ((k1.trans k2).trans k3) (fun k hk => by rw [hk]; exact Nat.le_refl _) (by simp))
/- What protos hands back. -/
def protoCells (l : List Nat) : List Value := l.map fun x : Nat => Value.int .u8 (x : Int)
def ProtosGot (o : Option (List Nat)) (w : World) (r : Ending) (w' : World) : Prop := (match o with
  | none => r = .returned (.tuple #[.slice none 0 0, .bool false])
  | some L => ∃ v : Value, r = .returned (.tuple #[v, .bool true]) ∧ w'.ownsRow w.heap.size 5 1 v L.length (protoCells L)) ∧ Below w.heap.size w w'
theorem ProtosGot.bad {W w' : World} {o : Option (List Nat)} (h : o = none) (hb : Below W.heap.size W w') : ProtosGot o W (.returned (.tuple #[.slice none 0 0, .bool false])) w' := by rw [h]; exact ⟨rfl, hb⟩
theorem ProtosGot.good {W w' : World} {o : Option (List Nat)} {L : List Nat} {v : Value} (h : o = some L) (ho : w'.ownsRow W.heap.size 5 1 v L.length (protoCells L)) (hb : Below W.heap.size W w') : ProtosGot o W (.returned (.tuple #[v, .bool true])) w' := by rw [h]; exact ⟨⟨v, rfl, ho⟩, hb⟩
theorem info_u8p : (Tryz.prog.info? 5).map (fun i => (i.zero, i.size, i.bytes)) = some (some (.int .u8 0), 1, 1) := by kernel_rfl
def lastN (l : List Nat) : Nat := (l[l.length - 1]?).getD 0
theorem lastN_cell {l : List Nat} (h : 0 < l.length) : (protoCells l)[l.length - 1]? = some (.int .u8 (lastN l : Int)) := by
  unfold protoCells lastN
  rw [List.getElem?_map, List.getElem?_eq_getElem (by omega)]
  rfl
theorem lastN_snoc (l : List Nat) (x : Nat) : lastN (l ++ [x]) = x := by simp [lastN]
theorem protoCells_snoc (l : List Nat) (x : Nat) : protoCells (l ++ [x]) = protoCells l ++ [.int .u8 (x : Int)] := by simp [protoCells]
theorem protoN_le (w : List UInt8) : protoN w ≤ 17 := by unfold protoN; split; omega; split; omega; split <;> omega
theorem protosGo_step {last : Nat} {acc : List Nat} {t : List UInt8} {r : List (List UInt8)} : (protosGo last (t :: r)).map (acc ++ ·) = if protoN t = 0 ∨ protoN t ≤ last then none else (protosGo (protoN t) r).map ((acc ++ [protoN t]) ++ ·) := by
  rw [protosGo]
  split
  · rfl
  · rw [Option.map_map]
    congr 1
    funext x
    simp

set_option maxHeartbeats 8000000 in
set_option maxRecDepth 100000 in
theorem protos_any {w : World} (env : Env w) (s : ByteArray) (hs : s.size ≤ 2000000) : Calls Tryz.prog 96 #[.string s] w (ProtosGot (protosP s) w) := by
  by_cases hst : s = W_any
  · subst hst
    rw [show protosP W_any = some [] by unfold protosP; rw [if_pos rfl]]
    unfold W_any
    have hb0 := Below.refl w.heap.size w
    clear env hs
    go_enter Tryz.func96, Tryz.ntmps96
    go_wp2_with fail
    go_ret2
    exact ProtosGot.good (v := .slice none 0 0) rfl (World.ownsRow_nil _ _ _ _) hb0
  · have hss : (s.toList == [97, 110, 121]) = false := by
      rw [beq_eq_false_iff_ne]
      intro h
      rw [ByteArray.toList_eq] at h
      exact hst (ByteArray.ext (Array.ext' h))
    obtain ⟨i0, hi, hz0, hz1, hz2⟩ := info_parts info_u8p
    have hmm := @run_makeMap Tryz.prog
    obtain ⟨w1, w2, w3, e1, e2, e3, hM, hbm⟩ := protos_made w
    have hsp := split_call (env.below hbm) s hs 44
    obtain ⟨RES, hRES⟩ : ∃ r, r = protosP s := ⟨_, rfl⟩
    rw [← hRES]
    unfold protosP at hRES
    rw [if_neg hst, ← splitP_lists] at hRES
    have hFl := splitP_length 44 s
    generalize splitP 44 s = F at hsp hRES hFl
    obtain ⟨N, hN⟩ : ∃ n, n = F.length := ⟨_, rfl⟩
    rw [← hN] at hsp hFl
    have hN1 : N ≤ 2000001 := by omega
    have HSp := Lib.hid hsp
    have HRES : RowKit.Hid (RES = (protosGo (lastN []) ((F.map (·.data.toList)).drop 0)).map (([] : List Nat) ++ ·)) := Lib.hid (by rw [hRES]; simp [lastN])
    have HN := Lib.hid hN
    have HM := Lib.hid hM
    have Hbm := Lib.hid hbm
    have hsz3 : w.heap.size < w3.heap.size := hM.lt
    clear hsp hRES hM hbm hN hst env hFl
    go_enter Tryz.func96, Tryz.ntmps96
    go_wp2_with (go_at_call 26; (with_reducible refine HSp.out.mono ?_); rintro r wq ⟨rfl, rfl⟩)
    have hrow : Blk (w3.alloc (.cells (F.map Value.string).toArray 9)) w3.heap.size 9 (F.map Value.string).toArray := Blk.new _ _ _
    have hb1 := boxed w3 (.cells (F.map Value.string).toArray 9)
    have Hb0 := Lib.hid (after Hbm.out hb1)
    have HM0 := Lib.hid (HM.out.below hb1 HM.out.lt)
    have Hrow := Lib.hid hrow
    have hsz0 : w3.heap.size < (w3.alloc (.cells (F.map Value.string).toArray 9)).heap.size := by simp
    clear e1 e2 e3 hmm hb1 hrow HSp Hbm HM
    generalize w3.alloc (.cells (F.map Value.string).toArray 9) = W0 at Hb0 HM0 Hrow hsz0 ⊢
    generalize w3.heap.size = gR at Hrow hsz0 hsz3 ⊢
    have hmW : w.heap.size < W0.heap.size := by omega
    go_loopw [2, 15] (fun v2 v15 wr => ∃ (k : Nat) (acc : List Nat) (A : Option Addr) (cap : Nat), k ≤ N ∧ v15 = .int .i64 (k : Int) ∧ v2 = .slice A acc.length cap ∧ acc.length ≤ k ∧ RowKit.Hid (wr.ownsRow W0.heap.size 5 1 (.slice A acc.length cap) acc.length (protoCells acc)) ∧ RowKit.Hid (Below W0.heap.size W0 wr) ∧ RowKit.Hid (RES = (protosGo (lastN acc) ((F.map (·.data.toList)).drop k)).map (acc ++ ·))) (fun _ v15 _ => N - (intOf v15).toNat)
    case atStart => exact ⟨0, [], none, 0, Nat.zero_le _, rfl, rfl, by simp, Lib.hid (World.ownsRow_nil _ _ _ _), Lib.hid (Below.refl _ _), HRES⟩
    case round =>
      obtain ⟨k, acc, A, cap, hk, rfl, rfl, hak, hown, hb, hres⟩ := hrel
      by_cases hlt : k < N
      · have hkF : k < F.length := by have := HN.out; omega
        have cx := (hb.out.cell (p := ⟨gR, k, none⟩) hsz0).trans (Hrow.out.cell k)
        rw [List.getElem?_toArray, List.getElem?_map, List.getElem?_eq_getElem hkF] at cx
        simp only [Option.map_some] at cx
        have hres2 := hres.out
        rw [← List.map_drop, List.drop_eq_getElem_cons hkF, List.map_cons, protosGo_step, List.map_drop] at hres2
        generalize F[k]'hkF = T at cx hres2
        have hlk := protos_lookup (HM0.out.below hb.out hmW) T
        have hx17 := protoN_le T.data.toList
        generalize protoN T.data.toList = x at hres2 hlk hx17
        have Hres2 := Lib.hid hres2
        clear hres2 hres hkF
        by_cases hx0 : x = 0
        · subst hx0
          have hR := Hres2.out
          rw [if_pos (Or.inl rfl)] at hR
          have HR := Lib.hid hR
          clear hR Hres2
          go_wp2_with fail
          go_ret2
          exact ProtosGot.bad HR.out (after Hb0.out hb.out)
        have q0 : ((x : Int) == 0) = false := by simp; omega
        by_cases hac : acc.length = 0
        · obtain rfl := List.eq_nil_of_length_eq_zero hac
          have hR := Hres2.out
          rw [if_neg (by simp [lastN]; omega)] at hR
          have HRn : RowKit.Hid (RES = (protosGo (lastN ([] ++ [x])) ((F.map (·.data.toList)).drop (k + 1))).map (([] ++ [x]) ++ ·)) := Lib.hid (by rw [lastN_snoc]; exact hR)
          clear hR Hres2 hx0
          go_wp2_with (at_builtin; refine wpList_append_own _ rfl _ _ 40 rfl W0.heap.size 5 i0 (.int .u8 0) 1 1 Tryz.underlying40 hi hz0 hz1 hz2 rfl (by decide) _ 0 _ rfl (hown.out.alloc _) ⟨wr.heap.size, 0, none⟩ 1 1 [.int .u8 (x : Int)] rfl rfl (cell_one_new _ _ _) (fun x hx => by simp at hx; subst hx; rfl) (by unfold maxLen; omega) (by omega) (by have := hb.out.size; simp; omega) ?_; intro v' w3 hown' hgrow3 hnil3; have Ho4 := Lib.hid hown'; have hbW := Lib.hid ((hb.out.alloc (hb.out.size) _).grown hgrow3 (by have := hb.out.size; simp; omega) (fun q hq => (hown.out.lt q hq).1)); clear hown' hgrow3 hnil3)
          obtain ⟨A', cap', rfl⟩ := own_shape Ho4.out
          go_roundw
          case rel => exact ⟨k + 1, [] ++ [x], A', cap', by omega, by go_num, by rw [List.length_append]; rfl, by rw [List.length_append, List.length_singleton]; simp, Lib.hid (by rw [protoCells_snoc, List.length_append]; exact Ho4.out), hbW, HRn⟩
          case measure => simp [intOf]; omega
        · have hpos : 0 < acc.length := by omega
          have hl := lastN_cell hpos
          rcases hown.out.2 with ⟨e, _⟩ | ⟨g, cap2, cur, e, hrest⟩
          · injection e with e1 e2 e3
            exact absurd e2 hac
          injection e with e1 e2 e3
          subst e1
          have c2 := (hown.out.cellAt (acc.length - 1) (by omega)).trans hl
          generalize hM : acc.length = M at hac hpos c2 hown hak ⊢
          have j1 : IntKind.i64.wrap ((M : Int) - 1) = ((M - 1 : Nat) : Int) := by rw [IntKind.wrap_i64]; omega
          have j2 : (0 : Int) < (M : Int) := by omega
          generalize hLN : lastN acc = LN at c2 hl Hres2
          have HM1 := Lib.hid hM
          clear hM hl hrest cur hx0
          by_cases hge : x ≤ LN
          · have hR := Hres2.out
            rw [if_pos (Or.inr hge)] at hR
            have HR := Lib.hid hR
            have j3 : (x : Int) ≤ (LN : Int) := by omega
            clear hR Hres2 hge
            go_wp2_with fail
            go_ret2
            exact ProtosGot.bad HR.out (after Hb0.out hb.out)
          · have hR := Hres2.out
            rw [if_neg (by omega)] at hR
            have HRn : RowKit.Hid (RES = (protosGo (lastN (acc ++ [x])) ((F.map (·.data.toList)).drop (k + 1))).map ((acc ++ [x]) ++ ·)) := Lib.hid (by rw [lastN_snoc]; exact hR)
            have j3 : ¬ (x : Int) ≤ (LN : Int) := by omega
            clear hR Hres2 hge
            go_wp2_with (at_builtin; refine wpList_append_own _ rfl _ _ 40 rfl W0.heap.size 5 i0 (.int .u8 0) 1 1 Tryz.underlying40 hi hz0 hz1 hz2 rfl (by decide) _ M _ rfl (hown.out.alloc _) ⟨wr.heap.size, 0, none⟩ 1 1 [.int .u8 (x : Int)] rfl rfl (cell_one_new _ _ _) (fun x hx => by simp at hx; subst hx; rfl) (by unfold maxLen; omega) (by omega) (by have := hb.out.size; simp; omega) ?_; intro v' w3 hown' hgrow3 hnil3; have Ho4 := Lib.hid hown'; have hbW := Lib.hid ((hb.out.alloc (hb.out.size) _).grown hgrow3 (by have := hb.out.size; simp; omega) (fun q hq => (hown.out.lt q hq).1)); clear hown' hgrow3 hnil3)
            obtain ⟨A', cap', rfl⟩ := own_shape Ho4.out
            go_roundw
            case rel => exact ⟨k + 1, acc ++ [x], A', cap', by omega, by go_num, by rw [List.length_append, HM1.out]; rfl, by rw [List.length_append, List.length_singleton, HM1.out]; omega, Lib.hid (by rw [protoCells_snoc, List.length_append, HM1.out]; exact Ho4.out), hbW, HRn⟩
            case measure => simp [intOf]; omega
      · obtain rfl : k = N := by omega
        have hR := hres.out
        rw [List.drop_eq_nil_of_le (by rw [List.length_map]; have := HN.out; omega), protosGo] at hR
        have HR := Lib.hid hR
        clear hR hres
        go_wp2_with fail
        go_ret2
        exact ProtosGot.good (L := acc) (by rw [HR.out]; simp) (hown.out.mono Hb0.out.size) (after Hb0.out hb.out)
end Go.Proofs.YtbiglifngfgffaaGreatDoor
