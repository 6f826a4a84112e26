/- Joined out of: PlH PlK PlL RgE PlN PlO PlP PlQ. -/
import Derived.Test.YthglckoikjfjkaaGreatDoorSac
import Derived.Test.YthglckoikjfjkaaGreatDoorSaf
import Derived.Deep.RegionHeld3
import Derived.Lib.AppendIntMem
import Derived.Deep.AppendLies
import Derived.Deep.RegionHeldLaw
set_option linter.unusedVariables false
set_option linter.unusedSimpArgs false

/- A selector of a word (sel): the walk. -/
namespace Go.Proofs.YthglckoikjfjkaaGreatDoor
open Go.RowKit
attribute [local go_sem ↓] Go.wp_at_zero Go.wp_at_succ

def Sel.cells (s : Sel) : Array Value := #[.int .u8 (s.kind : Int), .string s.name, .bool s.net.a.v6, .int .u64 (s.net.a.hi : Int), .int .u64 (s.net.a.lo : Int), .int .u8 (s.net.bits : Int)]
theorem run_lookup1 {P : Program} {T K E : TypeId} {w : World} {m clock : Nat} {L : List SE} (hT : P.underlying T = some (.map K E)) (hK : P.underlying K = some .string) (h : MBlk w m L clock) (s : ByteArray) {j : Nat} {x : SE} (hj : at_ L s = some j) (hx : L[j]? = some x) :
    (Instr.lookup T (.map (some m)) (.string s) false).run P w = .ok x.val w := by
  simp [Instr.lookup, run_underlying hT, run_getObj_map h, run_checkKey_string _ _ hK, ents, run_findKey_sm s hK, hj, hx, List.getD_eq_getElem?_getD]
theorem run_lookup1_none {P : Program} {T K E : TypeId} {w : World} {m clock : Nat} {L : List SE} (hT : P.underlying T = some (.map K E)) (hK : P.underlying K = some .string) (h : MBlk w m L clock) (s : ByteArray) (hj : at_ L s = none) {z : Value} (hz : (zeroValue E).run P w = .ok z w) :
    (Instr.lookup T (.map (some m)) (.string s) false).run P w = .ok z w := by
  simp [Instr.lookup, run_underlying hT, run_getObj_map h, run_checkKey_string _ _ hK, ents, run_findKey_sm s hK, hj, hz]
def kindsL : List SE := [⟨W_user, .int .u8 2, 0⟩, ⟨W_group, .int .u8 3, 1⟩, ⟨W_tag, .int .u8 4, 2⟩, ⟨W_host, .int .u8 5, 3⟩, ⟨W_net, .int .u8 6, 4⟩]
theorem beq_false_of {a b : ByteArray} (h : a ≠ b) : (a == b) = false := by
  cases e : a == b with
  | false => rfl
  | true => exact absurd ((bytes_beq a b).1 e) h
theorem beq_true_of (a : ByteArray) : (a == a) = true := (bytes_beq a a).2 rfl
theorem kinds_lookup {w : World} {m clock : Nat} (h : MBlk w m kindsL clock) (s : ByteArray) : (Instr.lookup 225 (.map (some m)) (.string s) false).run Tryz.prog w = .ok (.int .u8 (kindN s.data.toList : Int)) w := by
  have hT := Tryz.underlying225
  have hK := Tryz.underlying9
  unfold kindN
  rw [ofL_back]
  by_cases e1 : s = W_user
  · subst e1
    rw [if_pos rfl]
    exact run_lookup1 hT hK h _ (j := 0) (x := ⟨W_user, .int .u8 2, 0⟩) (by decide +kernel) rfl
  rw [if_neg e1]
  by_cases e2 : s = W_group
  · subst e2
    rw [if_pos rfl]
    exact run_lookup1 hT hK h _ (j := 1) (x := ⟨W_group, .int .u8 3, 1⟩) (by decide +kernel) rfl
  rw [if_neg e2]
  by_cases e3 : s = W_tag
  · subst e3
    rw [if_pos rfl]
    exact run_lookup1 hT hK h _ (j := 2) (x := ⟨W_tag, .int .u8 4, 2⟩) (by decide +kernel) rfl
  rw [if_neg e3]
  by_cases e4 : s = W_host
  · subst e4
    rw [if_pos rfl]
    exact run_lookup1 hT hK h _ (j := 3) (x := ⟨W_host, .int .u8 5, 3⟩) (by decide +kernel) rfl
  rw [if_neg e4]
  by_cases e5 : s = W_net
  · subst e5
    rw [if_pos rfl]
    exact run_lookup1 hT hK h _ (j := 4) (x := ⟨W_net, .int .u8 6, 4⟩) (by decide +kernel) rfl
  rw [if_neg e5]
  refine run_lookup1_none hT hK h s ?_ (Tryz.zeroValue5 w)
  unfold at_ kindsL
  simp only [List.findIdx?_cons, List.findIdx?_nil]
  rw [beq_false_of (Ne.symm e1), beq_false_of (Ne.symm e2), beq_false_of (Ne.symm e3), beq_false_of (Ne.symm e4), beq_false_of (Ne.symm e5)]
  rfl
theorem load_sel {w : World} {g : Nat} {v0 v1 v2 v3 v4 v5 : Value} (h : Blk w g 66 #[v0, v1, v2, v3, v4, v5]) : (loadVar 66 ⟨g, 0, none⟩).run Tryz.prog w = .ok (.agg #[v0, v1, v2, v3, v4, v5]) w := by
  have c0 := h.cell 0
  have c1 := h.cell 1
  have c2 := h.cell 2
  have c3 := h.cell 3
  have c4 := h.cell 4
  have c5 := h.cell 5
  simp at c0 c1 c2 c3 c4 c5
  simp [loadVar, go_sem, c0, c1, c2, c3, c4, c5]
theorem sel_put {W w : World} {g : Nat} {z0 z1 z2 z3 z4 z5 v0 v1 v2 v3 v4 v5 : Value} (hB : Blk w g 66 #[z0, z1, z2, z3, z4, z5]) (hb : Below W.heap.size W w) (hg : W.heap.size ≤ g) : Blk ((((((w.setCell ⟨g, 0, none⟩ v0).setCell ⟨g, 1, none⟩ v1).setCell ⟨g, 2, none⟩ v2).setCell ⟨g, 3, none⟩ v3).setCell ⟨g, 4, none⟩ v4).setCell ⟨g, 5, none⟩ v5) g 66 #[v0, v1, v2, v3, v4, v5] ∧ Below W.heap.size W ((((((w.setCell ⟨g, 0, none⟩ v0).setCell ⟨g, 1, none⟩ v1).setCell ⟨g, 2, none⟩ v2).setCell ⟨g, 3, none⟩ v3).setCell ⟨g, 4, none⟩ v4).setCell ⟨g, 5, none⟩ v5) := by
  have s0 : Blk (w.setCell ⟨g, 0, none⟩ v0) g 66 #[v0, z1, z2, z3, z4, z5] := hB.set_ 0 v0
  have s1 : Blk ((w.setCell ⟨g, 0, none⟩ v0).setCell ⟨g, 1, none⟩ v1) g 66 #[v0, v1, z2, z3, z4, z5] := s0.set_ 1 v1
  have s2 : Blk (((w.setCell ⟨g, 0, none⟩ v0).setCell ⟨g, 1, none⟩ v1).setCell ⟨g, 2, none⟩ v2) g 66 #[v0, v1, v2, z3, z4, z5] := s1.set_ 2 v2
  have s3 : Blk ((((w.setCell ⟨g, 0, none⟩ v0).setCell ⟨g, 1, none⟩ v1).setCell ⟨g, 2, none⟩ v2).setCell ⟨g, 3, none⟩ v3) g 66 #[v0, v1, v2, v3, z4, z5] := s2.set_ 3 v3
  have s4 : Blk (((((w.setCell ⟨g, 0, none⟩ v0).setCell ⟨g, 1, none⟩ v1).setCell ⟨g, 2, none⟩ v2).setCell ⟨g, 3, none⟩ v3).setCell ⟨g, 4, none⟩ v4) g 66 #[v0, v1, v2, v3, v4, z5] := s3.set_ 4 v4
  have s5 : Blk ((((((w.setCell ⟨g, 0, none⟩ v0).setCell ⟨g, 1, none⟩ v1).setCell ⟨g, 2, none⟩ v2).setCell ⟨g, 3, none⟩ v3).setCell ⟨g, 4, none⟩ v4).setCell ⟨g, 5, none⟩ v5) g 66 #[v0, v1, v2, v3, v4, v5] := s4.set_ 5 v5
  exact ⟨s5, ((((((hb.setCell (p := ⟨g, 0, none⟩) hg v0).setCell (p := ⟨g, 1, none⟩) hg v1).setCell (p := ⟨g, 2, none⟩) hg v2).setCell (p := ⟨g, 3, none⟩) hg v3).setCell (p := ⟨g, 4, none⟩) hg v4).setCell (p := ⟨g, 5, none⟩) hg v5)⟩
theorem MBlk.put6 {w : World} {m clock g : Nat} {L : List SE} {v0 v1 v2 v3 v4 v5 : Value} (h : MBlk w m L clock) (hne : g ≠ m) : MBlk ((((((w.setCell ⟨g, 0, none⟩ v0).setCell ⟨g, 1, none⟩ v1).setCell ⟨g, 2, none⟩ v2).setCell ⟨g, 3, none⟩ v3).setCell ⟨g, 4, none⟩ v4).setCell ⟨g, 5, none⟩ v5) m L clock := by
  have k := ((((((Keeps.refl (fun x => x = g) w).setCell (p := ⟨g, 0, none⟩) (Or.inl rfl) v0).setCell (p := ⟨g, 1, none⟩) (Or.inl rfl) v1).setCell (p := ⟨g, 2, none⟩) (Or.inl rfl) v2).setCell (p := ⟨g, 3, none⟩) (Or.inl rfl) v3).setCell (p := ⟨g, 4, none⟩) (Or.inl rfl) v4).setCell (p := ⟨g, 5, none⟩) (Or.inl rfl) v5
  exact h.keep k fun e => hne e.symm
theorem MBlk.drw {w : World} {m clock : Nat} {L : List SE} (h : MBlk w m L clock) : MBlk w.drew m L clock := h
theorem kinds_made (w0 : World) : ∃ w1 w2 w3 w4 w5 : World, (Instr.mapUpdate 225 (.map (some w0.heap.size)) (.string ⟨#[117, 115, 101, 114]⟩) (.int .u8 2)).run Tryz.prog (w0.alloc (.map #[] 0)) = .ok () w1 ∧
    (Instr.mapUpdate 225 (.map (some w0.heap.size)) (.string ⟨#[103, 114, 111, 117, 112]⟩) (.int .u8 3)).run Tryz.prog w1 = .ok () w2 ∧
    (Instr.mapUpdate 225 (.map (some w0.heap.size)) (.string ⟨#[116, 97, 103]⟩) (.int .u8 4)).run Tryz.prog w2 = .ok () w3 ∧
    (Instr.mapUpdate 225 (.map (some w0.heap.size)) (.string ⟨#[104, 111, 115, 116]⟩) (.int .u8 5)).run Tryz.prog w3 = .ok () w4 ∧
    (Instr.mapUpdate 225 (.map (some w0.heap.size)) (.string ⟨#[110, 101, 116]⟩) (.int .u8 6)).run Tryz.prog w4 = .ok () w5 ∧ MBlk w5 w0.heap.size kindsL 5 ∧ Below w0.heap.size w0 w5 := by
  have hT := Tryz.underlying225
  have hK := Tryz.underlying9
  have h0 : MBlk (w0.alloc (.map #[] 0)) w0.heap.size [] 0 := heap_alloc_new w0 _
  obtain ⟨w1, e1, _, _, k1, m1⟩ := update_sm (P := Tryz.prog) hT hK h0 ⟨#[117, 115, 101, 114]⟩ (by decide +kernel) (.int .u8 2)
  obtain ⟨w2, e2, _, _, k2, m2⟩ := update_sm (P := Tryz.prog) hT hK m1 ⟨#[103, 114, 111, 117, 112]⟩ (by decide +kernel) (.int .u8 3)
  obtain ⟨w3, e3, _, _, k3, m3⟩ := update_sm (P := Tryz.prog) hT hK m2 ⟨#[116, 97, 103]⟩ (by decide +kernel) (.int .u8 4)
  obtain ⟨w4, e4, _, _, k4, m4⟩ := update_sm (P := Tryz.prog) hT hK m3 ⟨#[104, 111, 115, 116]⟩ (by decide +kernel) (.int .u8 5)
  obtain ⟨w5, e5, _, _, k5, m5⟩ := update_sm (P := Tryz.prog) hT hK m4 ⟨#[110, 101, 116]⟩ (by decide +kernel) (.int .u8 6)
  refine ⟨w1, w2, w3, w4, w5, e1, e2, e3, e4, e5, m5, ?_⟩
  exact (boxed w0 _).trans (Keeps.below ((((k1.trans k2).trans k3).trans k4).trans k5) (fun k hk => by rw [hk]; exact Nat.le_refl _) (by simp))

def LkOk (m : Nat) (T : ByteArray) (K : Nat) (w : World) : Prop := (Instr.lookup 225 (.map (some m)) (.string T) false).run Tryz.prog w = .ok (.int .u8 (K : Int)) w
/- What sel hands back. -/
def SelGot (o : Option Sel) (w : World) (r : Ending) (w' : World) : Prop := (∃ s : Sel, r = .returned (.tuple #[.agg s.cells, .bool o.isSome]) ∧ ∀ x, o = some x → s = x) ∧ Below w.heap.size w w'

set_option maxHeartbeats 8000000 in
set_option maxRecDepth 100000 in
theorem sel_any {w : World} (env : Env w) (s : ByteArray) (hs : s.size ≤ 2000000) : Calls Tryz.prog 145 #[.string s] w (SelGot (selP s) w) := by
  have hB0 := Blk.new w 66 #[.int .u8 0, .string ⟨#[]⟩, .bool false, .int .u64 0, .int .u64 0, .int .u8 0]
  have hb0 := boxed w (.cells #[.int .u8 0, .string ⟨#[]⟩, .bool false, .int .u64 0, .int .u64 0, .int .u8 0] 66)
  by_cases hst : s = W_star
  · subst hst
    rw [show selP W_star = some ⟨1, ByteArray.empty, Pf.zero⟩ by unfold selP; rw [if_pos rfl]]
    unfold W_star
    clear env hs
    go_enter Tryz.func145, Tryz.ntmps145
    go_wp2_with fail
    refine bodyPost_ret (results_ct rfl rfl rfl (load_sel (Blk.new _ _ _))) rfl ⟨⟨⟨1, ByteArray.empty, Pf.zero⟩, rfl, fun x hx => by injection hx⟩, boxed _ _⟩
  · have hss : (s.toList == [42]) = false := by
      rw [beq_eq_false_iff_ne]
      intro h
      rw [ByteArray.toList_eq] at h
      exact hst (ByteArray.ext (Array.ext' h))
    have hmm := @run_makeMap Tryz.prog
    have hk := kinds_made (w.alloc (.cells #[.int .u8 0, .string ⟨#[]⟩, .bool false, .int .u64 0, .int .u64 0, .int .u8 0] 66))
    rw [show (w.alloc (.cells #[.int .u8 0, .string ⟨#[]⟩, .bool false, .int .u64 0, .int .u64 0, .int .u8 0] 66)).heap.size = w.heap.size + 1 by simp] at hk
    obtain ⟨w1, w2, w3, w4, w5, e1, e2, e3, e4, e5, hM, hbm⟩ := hk
    have hB5 := hB0.below hbm (by omega)
    have hb5 : Below w.heap.size w w5 := hb0.trans (hbm.mono (by omega))
    -- the word, cut
    obtain ⟨mx, hmx⟩ := (env.below hb5).mx
    have hcut := Tryz.strings_Cut s ⟨#[58]⟩ mx w5 (by omega) hmx
    have hcl := cut_len s.data.toList [58]
    rw [show (⟨#[58]⟩ : ByteArray).data.toList = [58] from rfl] at hcut
    obtain ⟨RES, hRES⟩ : ∃ r, r = selP s := ⟨_, rfl⟩
    rw [← hRES]
    unfold selP at hRES
    rw [if_neg hst] at hRES
    simp only at hRES
    generalize Lib.cut s.data.toList [58] = C at hcl hcut hRES
    obtain ⟨c1, c2, gap⟩ := C
    simp only at hcl hcut hRES
    rw [show s.data.toList.length = s.size from (Lib.size_eq s).symm] at hcl
    have hrd := fun v (hv : Below w.heap.size w v) => readPrefix_any (env.below hv) ⟨c2.toArray⟩ (by rw [show (⟨c2.toArray⟩ : ByteArray).size = c2.length by simp [ByteArray.size]]; omega)
    rw [show (⟨c2.toArray⟩ : ByteArray).data.toList = c2 from rfl] at hrd
    have hlab := fun v => label_any ⟨c2.toArray⟩ (by rw [show (⟨c2.toArray⟩ : ByteArray).size = c2.length by simp [ByteArray.size]]; omega) v
    rw [show labelB (⟨c2.toArray⟩ : ByteArray) = labelL c2 from rfl] at hlab
    have hlk : ∀ W, MBlk W (w.heap.size + 1) kindsL 5 → LkOk (w.heap.size + 1) ⟨c1.toArray⟩ (kindN c1) W := fun W h => kinds_lookup h ⟨c1.toArray⟩
    have hK6 : kindN c1 ≤ 6 := by
      by_cases h0 : 0 < kindN c1
      · rcases kindN_cases h0 with h | h | h | h | h <;> omega
      · omega
    generalize kindN c1 = K at hRES hlk hK6
    unfold ofL at hRES
    generalize (⟨c1.toArray⟩ : ByteArray) = T1 at hcut hlk
    generalize hT2 : (⟨c2.toArray⟩ : ByteArray) = T2 at hcut hrd hlab hRES
    have HCut := Lib.hid hcut
    have HRES := Lib.hid hRES
    have HRd := Lib.hid hrd
    have HLab := Lib.hid hlab
    have Hlk := Lib.hid hlk
    clear hcut hRES hrd hlab hlk env hmx hcl hst hT2
    go_enter Tryz.func145, Tryz.ntmps145
    go_upto_region 5 with (go_at_call 164; (with_reducible refine HCut.out.mono ?_); rintro r wq ⟨rfl, nq, rfl⟩)
    have hB6 : Blk (w5.drewN nq) w.heap.size 66 #[.int .u8 0, .string ⟨#[]⟩, .bool false, .int .u64 0, .int .u64 0, .int .u8 0] := hB5
    have hb6 : Below w.heap.size w (w5.drewN nq) := ⟨hb5.os, hb5.tape, hb5.output, hb5.size, hb5.block⟩
    have HM6 := Lib.hid (hM.drewN nq)
    clear e1 e2 e3 e4 e5 hmm hM hbm hB5 hb5 HCut hB0 hb0
    generalize w5.drewN nq = w6 at hB6 hb6 HM6 ⊢
    have hlk := Hlk.out w6 HM6.out
    unfold LkOk at hlk
    by_cases h6 : K = 6
    · subst h6
      have hR := HRES.out
      rw [if_pos rfl] at hR
      have HR6 := Lib.hid hR
      clear hR HRES HLab HM6
      have Hb6 := Lib.hid hb6
      have HB6 := Lib.hid hB6
      clear hb6 hB6
      go_upto_region 6 with fail
      cases hp : preadL c2 with
      | none =>
        rw [hp] at HRd HR6
        have HRd' : RowKit.Hid (∀ (v : World), Below w.heap.size w v → Calls Tryz.prog 165 #[.string T2] v (Got (.tuple #[.agg #[.bool false, .int .u64 0, .int .u64 0, .int .u8 0], .int .i64 8]) v)) := HRd
        go_upto_region 7 with (go_at_call 165; (with_reducible refine (HRd'.out _ Hb6.out).mono ?_); rintro r w7 ⟨rfl, d7⟩)
        have hB8 := (HB6.out.below d7 HB6.out.lt).alloc (.cells #[.bool false, .int .u64 0, .int .u64 0, .int .u8 0] 64)
        have hb8 := after (after Hb6.out d7) (boxed w7 (.cells #[.bool false, .int .u64 0, .int .u64 0, .int .u8 0] 64))
        have hP := Blk.new w7 64 #[.bool false, .int .u64 0, .int .u64 0, .int .u8 0]
        clear d7
        generalize w7.alloc (.cells #[.bool false, .int .u64 0, .int .u64 0, .int .u8 0] 64) = w8 at hB8 hb8 hP ⊢
        have b0 := hB8.cell 0
        have b1 := hB8.cell 1
        have b2 := hB8.cell 2
        have b3 := hB8.cell 3
        have b4 := hB8.cell 4
        have b5 := hB8.cell 5
        have z0 := hB8.frozen 0
        have z1 := hB8.frozen 1
        have z2 := hB8.frozen 2
        have z3 := hB8.frozen 3
        have z4 := hB8.frozen 4
        have z5 := hB8.frozen 5
        have p0 := hP.cell 0
        have p1 := hP.cell 1
        have p2 := hP.cell 2
        have p3 := hP.cell 3
        simp at b0 b1 b2 b3 b4 b5 p0 p1 p2 p3
        obtain ⟨q1, q2⟩ := sel_put (v0 := .int .u8 6) (v1 := .string ⟨#[]⟩) (v2 := .bool false) (v3 := .int .u64 0) (v4 := .int .u64 0) (v5 := .int .u8 0) hB8 hb8 (Nat.le_refl _)
        have Q1 := Lib.hid q1
        have Q2 := Lib.hid q2
        clear q1 q2
        go_wp2_with fail
        refine bodyPost_ret (results_ct rfl rfl rfl (load_sel Q1.out)) rfl ⟨⟨⟨6, ByteArray.empty, Pf.zero⟩, by rw [HR6.out]; rfl, fun x hx => by rw [HR6.out] at hx; cases hx⟩, Q2.out⟩
      | some n =>
        obtain ⟨⟨a1, a2, a3⟩, a4⟩ := n
        rw [hp] at HRd HR6
        have HRd' : RowKit.Hid (∀ (v : World), Below w.heap.size w v → Calls Tryz.prog 165 #[.string T2] v (Got (.tuple #[.agg #[.bool a1, .int .u64 (a2 : Int), .int .u64 (a3 : Int), .int .u8 (a4 : Int)], .int .i64 0]) v)) := HRd
        go_upto_region 7 with (go_at_call 165; (with_reducible refine (HRd'.out _ Hb6.out).mono ?_); rintro r w7 ⟨rfl, d7⟩)
        have hB8 := (HB6.out.below d7 HB6.out.lt).alloc (.cells #[.bool a1, .int .u64 (a2 : Int), .int .u64 (a3 : Int), .int .u8 (a4 : Int)] 64)
        have hb8 := after (after Hb6.out d7) (boxed w7 (.cells #[.bool a1, .int .u64 (a2 : Int), .int .u64 (a3 : Int), .int .u8 (a4 : Int)] 64))
        have hP := Blk.new w7 64 #[.bool a1, .int .u64 (a2 : Int), .int .u64 (a3 : Int), .int .u8 (a4 : Int)]
        clear d7
        generalize w7.alloc (.cells #[.bool a1, .int .u64 (a2 : Int), .int .u64 (a3 : Int), .int .u8 (a4 : Int)] 64) = w8 at hB8 hb8 hP ⊢
        have b0 := hB8.cell 0
        have b1 := hB8.cell 1
        have b2 := hB8.cell 2
        have b3 := hB8.cell 3
        have b4 := hB8.cell 4
        have b5 := hB8.cell 5
        have z0 := hB8.frozen 0
        have z1 := hB8.frozen 1
        have z2 := hB8.frozen 2
        have z3 := hB8.frozen 3
        have z4 := hB8.frozen 4
        have z5 := hB8.frozen 5
        have p0 := hP.cell 0
        have p1 := hP.cell 1
        have p2 := hP.cell 2
        have p3 := hP.cell 3
        simp at b0 b1 b2 b3 b4 b5 p0 p1 p2 p3
        obtain ⟨q1, q2⟩ := sel_put (v0 := .int .u8 6) (v1 := .string ⟨#[]⟩) (v2 := .bool a1) (v3 := .int .u64 (a2 : Int)) (v4 := .int .u64 (a3 : Int)) (v5 := .int .u8 (a4 : Int)) hB8 hb8 (Nat.le_refl _)
        have Q1 := Lib.hid q1
        have Q2 := Lib.hid q2
        clear q1 q2
        go_wp2_with fail
        refine bodyPost_ret (results_ct rfl rfl rfl (load_sel Q1.out)) rfl ⟨⟨⟨6, ByteArray.empty, ⟨⟨a1, a2, a3⟩, a4⟩⟩, by rw [HR6.out]; rfl, fun x hx => by rw [HR6.out] at hx; injection hx⟩, Q2.out⟩
    · have q6 : ((K : Int) == 6) = false := by simp; omega
      have hR := HRES.out
      rw [if_neg h6] at hR
      have HR6 := Lib.hid hR
      clear hR HRES HRd h6
      have hM := HM6.out
      have hgm : w.heap.size ≠ w.heap.size + 1 := by omega
      generalize hLB : labelL c2 = LB at HR6 HLab
      clear hLB
      by_cases h0 : 0 < K
      · have q0 : (0 : Int) < (K : Int) := by omega
        go_upto_region 8 with fail
        have b0 := hB6.cell 0
        have b1 := hB6.cell 1
        have b2 := hB6.cell 2
        have b3 := hB6.cell 3
        have b4 := hB6.cell 4
        have b5 := hB6.cell 5
        simp at b0 b1 b2 b3 b4 b5
        refine wp_region_held_drew (S := LkOk (w.heap.size + 1) T1 K) (by kernel_rfl) (Hlk.out w6.drew (show MBlk w6.drew (w.heap.size + 1) kindsL 5 from hM)) (fun hHeld => ?_)
        refine' wpAnyH_take (i := 0) (v := _) rfl (by kernel_rfl) (by kernel_rfl) (by kernel_rfl) (fun _ _ _ h => h) (Or.inl ⟨by rfl, ?ly1⟩) (by assumption) ?lrest1
        case ly1 =>
          intro w hSw
          unfold LkOk at hSw
          go_simp
          try with_reducible rfl
        try simp only [Act.put, List.setIfInBounds_toArray, List.set_cons_zero, List.set_cons_succ, List.getElem_toArray, List.getElem_cons_zero, List.getElem_cons_succ]
        refine' wpAnyH_take (i := 1) (v := _) rfl (by kernel_rfl) (by kernel_rfl) (by kernel_rfl) (fun _ _ _ h => h) (Or.inl ⟨by rfl, ?ly2⟩) (by assumption) ?lrest2
        case ly2 =>
          intro w hSw
          unfold LkOk at hSw
          go_simp
          try with_reducible rfl
        try simp only [Act.put, List.setIfInBounds_toArray, List.set_cons_zero, List.set_cons_succ, List.getElem_toArray, List.getElem_cons_zero, List.getElem_cons_succ]
        refine' wpAnyH_take (i := 2) (v := _) rfl (by kernel_rfl) (by kernel_rfl) (by kernel_rfl) (fun _ _ _ h => h) (Or.inl ⟨by rfl, ?ly3⟩) (by assumption) ?lrest3
        case ly3 =>
          intro w hSw
          unfold LkOk at hSw
          go_simp
          try with_reducible rfl
        try simp only [Act.put, List.setIfInBounds_toArray, List.set_cons_zero, List.set_cons_succ, List.getElem_toArray, List.getElem_cons_zero, List.getElem_cons_succ]
        refine' wpAnyH_take (i := 3) (v := _) rfl (by kernel_rfl) (by kernel_rfl) (by kernel_rfl) (fun _ _ _ h => h) (Or.inl ⟨by rfl, ?ly4⟩) (by assumption) ?lrest4
        case ly4 =>
          intro w hSw
          unfold LkOk at hSw
          go_simp
          try with_reducible rfl
        try simp only [Act.put, List.setIfInBounds_toArray, List.set_cons_zero, List.set_cons_succ, List.getElem_toArray, List.getElem_cons_zero, List.getElem_cons_succ]
        refine' wpAnyH_take (i := 4) (v := _) rfl (by kernel_rfl) (by kernel_rfl) (by kernel_rfl) (fun _ _ _ h => h) (Or.inl ⟨by rfl, ?ly5⟩) (by assumption) ?lrest5
        case ly5 =>
          intro w hSw
          unfold LkOk at hSw
          go_simp
          try with_reducible rfl
        try simp only [Act.put, List.setIfInBounds_toArray, List.set_cons_zero, List.set_cons_succ, List.getElem_toArray, List.getElem_cons_zero, List.getElem_cons_succ]
        refine' wpAnyH_take (i := 5) (v := _) rfl (by kernel_rfl) (by kernel_rfl) (by kernel_rfl) (fun _ _ _ h => h) (Or.inl ⟨by rfl, ?ly6⟩) (by assumption) ?lrest6
        case ly6 =>
          intro w hSw
          unfold LkOk at hSw
          go_simp
          try with_reducible rfl
        try simp only [Act.put, List.setIfInBounds_toArray, List.set_cons_zero, List.set_cons_succ, List.getElem_toArray, List.getElem_cons_zero, List.getElem_cons_succ]
        refine' wpAnyH_take (i := 6) (v := _) rfl (by kernel_rfl) (by kernel_rfl) (by kernel_rfl) (fun _ _ _ h => h) (Or.inl ⟨by rfl, ?ly7⟩) (by assumption) ?lrest7
        case ly7 =>
          intro w hSw
          unfold LkOk at hSw
          go_simp
          try with_reducible rfl
        try simp only [Act.put, List.setIfInBounds_toArray, List.set_cons_zero, List.set_cons_succ, List.getElem_toArray, List.getElem_cons_zero, List.getElem_cons_succ]
        refine' wpAnyH_take (i := 7) (v := _) rfl (by kernel_rfl) (by kernel_rfl) (by kernel_rfl) (fun _ _ _ h => h) (Or.inl ⟨by rfl, ?ly8⟩) (by assumption) ?lrest8
        case ly8 =>
          intro w hSw
          unfold LkOk at hSw
          go_simp
          try with_reducible rfl
        try simp only [Act.put, List.setIfInBounds_toArray, List.set_cons_zero, List.set_cons_succ, List.getElem_toArray, List.getElem_cons_zero, List.getElem_cons_succ]
        refine' wpAnyH_take (i := 8) (v := _) rfl (by kernel_rfl) (by kernel_rfl) (by kernel_rfl) (fun _ _ _ h => h) (Or.inl ⟨by rfl, ?ly9⟩) (by assumption) ?lrest9
        case ly9 =>
          intro w hSw
          unfold LkOk at hSw
          go_simp
          try with_reducible rfl
        try simp only [Act.put, List.setIfInBounds_toArray, List.set_cons_zero, List.set_cons_succ, List.getElem_toArray, List.getElem_cons_zero, List.getElem_cons_succ]
        refine' wpAnyH_take (i := 9) (v := _) rfl (by kernel_rfl) (by kernel_rfl) (by kernel_rfl) (fun _ _ _ h => h) (Or.inl ⟨by rfl, ?ly10⟩) (by assumption) ?lrest10
        case ly10 =>
          intro w hSw
          unfold LkOk at hSw
          go_simp
          try with_reducible rfl
        try simp only [Act.put, List.setIfInBounds_toArray, List.set_cons_zero, List.set_cons_succ, List.getElem_toArray, List.getElem_cons_zero, List.getElem_cons_succ]
        refine' wpAnyH_take (i := 10) (v := _) rfl (by kernel_rfl) (by kernel_rfl) (by kernel_rfl) (fun _ _ _ h => h) (Or.inl ⟨by rfl, ?ly11⟩) (by assumption) ?lrest11
        case ly11 =>
          intro w hSw
          unfold LkOk at hSw
          go_simp
          try with_reducible rfl
        try simp only [Act.put, List.setIfInBounds_toArray, List.set_cons_zero, List.set_cons_succ, List.getElem_toArray, List.getElem_cons_zero, List.getElem_cons_succ]
        refine wpAnyH_ready (rs := [11]) (by kernel_rfl) (by simp) ?_
        refine AllReadyH.cons rfl (fun K hK => ?_) AllReadyH.nil
        go_simp
        refine (HLab.out _).mono ?_
        rintro r w9 ⟨rfl, d9⟩
        have hM := MBlk.below (show MBlk w6.drew (w.heap.size + 1) kindsL 5 from hM) d9 hM.lt
        have hB6 := Blk.below (show Blk w6.drew w.heap.size 66 _ from hB6) d9 hB6.lt
        have hb6 := after (show Below w.heap.size w w6.drew from ⟨hb6.os, hb6.tape, hb6.output, hb6.size, hb6.block⟩) d9
        have b0 := hB6.cell 0
        have b1 := hB6.cell 1
        have b2 := hB6.cell 2
        have b3 := hB6.cell 3
        have b4 := hB6.cell 4
        have b5 := hB6.cell 5
        simp at b0 b1 b2 b3 b4 b5
        have z0 := hB6.frozen 0
        have z1 := hB6.frozen 1
        have z2 := hB6.frozen 2
        have z3 := hB6.frozen 3
        have z4 := hB6.frozen 4
        have z5 := hB6.frozen 5
        refine hK.out _ _ (Hlk.out w9 hM) (fun hHeld => ?_)
        clear hK K
        try simp only [Act.put, List.setIfInBounds_toArray, List.set_cons_zero, List.set_cons_succ, List.getElem_toArray, List.getElem_cons_zero, List.getElem_cons_succ]
        refine' wpAnyH_take (i := 12) (v := _) rfl (by kernel_rfl) (by kernel_rfl) (by kernel_rfl) (fun _ _ _ h => h) (Or.inl ⟨by rfl, ?ly13⟩) (by assumption) ?lrest13
        case ly13 =>
          intro w hSw
          unfold LkOk at hSw
          go_simp
          try with_reducible rfl
        try simp only [Act.put, List.setIfInBounds_toArray, List.set_cons_zero, List.set_cons_succ, List.getElem_toArray, List.getElem_cons_zero, List.getElem_cons_succ]
        refine wpAnyH_ready (rs := [13]) (by kernel_rfl) (by simp) ?_
        refine AllReadyH.cons rfl (fun K hK => ?_) AllReadyH.nil
        go_simp
        refine hK.out _ _ (Hlk.out _ (MBlk.put6 hM hgm)) (fun hHeld => ?_)
        clear hK K
        try simp only [Act.put, List.setIfInBounds_toArray, List.set_cons_zero, List.set_cons_succ, List.getElem_toArray, List.getElem_cons_zero, List.getElem_cons_succ]
        refine' wpAnyH_take (i := 14) (v := _) rfl (by kernel_rfl) (by kernel_rfl) (by kernel_rfl) (fun _ _ _ h => h) (Or.inl ⟨by rfl, ?ly15⟩) (by assumption) ?lrest15
        case ly15 =>
          intro w hSw
          unfold LkOk at hSw
          go_simp
          try with_reducible rfl
        try simp only [Act.put, List.setIfInBounds_toArray, List.set_cons_zero, List.set_cons_succ, List.getElem_toArray, List.getElem_cons_zero, List.getElem_cons_succ]
        refine wpAnyH_done (by kernel_rfl) ?_ _
        go_wp2_with fail
        obtain ⟨q1, q2⟩ := sel_put (v0 := .int .u8 (K : Int)) (v1 := .string T2) (v2 := .bool false) (v3 := .int .u64 0) (v4 := .int .u64 0) (v5 := .int .u8 0) hB6 hb6 (Nat.le_refl _)
        refine bodyPost_ret (results_ct rfl rfl rfl (load_sel q1)) rfl ⟨⟨⟨K, T2, Pf.zero⟩, ?_, ?_⟩, q2⟩
        · rw [HR6.out]
          cases LB with
          | true => rw [if_pos ⟨h0, rfl⟩]; rfl
          | false => rw [if_neg (by simp)]; rfl
        · intro x hx
          rw [HR6.out] at hx
          split at hx
          · injection hx
          · cases hx
      · obtain rfl : K = 0 := by omega
        go_upto_region 8 with fail
        have b0 := hB6.cell 0
        have b1 := hB6.cell 1
        have b2 := hB6.cell 2
        have b3 := hB6.cell 3
        have b4 := hB6.cell 4
        have b5 := hB6.cell 5
        simp at b0 b1 b2 b3 b4 b5
        have z0 := hB6.frozen 0
        have z1 := hB6.frozen 1
        have z2 := hB6.frozen 2
        have z3 := hB6.frozen 3
        have z4 := hB6.frozen 4
        have z5 := hB6.frozen 5
        refine wp_region_held_drew (S := LkOk (w.heap.size + 1) T1 0) (by kernel_rfl) (Hlk.out w6.drew (show MBlk w6.drew (w.heap.size + 1) kindsL 5 from hM)) (fun hHeld => ?_)
        refine' wpAnyH_take (i := 0) (v := _) rfl (by kernel_rfl) (by kernel_rfl) (by kernel_rfl) (fun _ _ _ h => h) (Or.inl ⟨by rfl, ?ly16⟩) (by assumption) ?lrest16
        case ly16 =>
          intro w hSw
          unfold LkOk at hSw
          go_simp
          try with_reducible rfl
        try simp only [Act.put, List.setIfInBounds_toArray, List.set_cons_zero, List.set_cons_succ, List.getElem_toArray, List.getElem_cons_zero, List.getElem_cons_succ]
        refine' wpAnyH_take (i := 1) (v := _) rfl (by kernel_rfl) (by kernel_rfl) (by kernel_rfl) (fun _ _ _ h => h) (Or.inl ⟨by rfl, ?ly17⟩) (by assumption) ?lrest17
        case ly17 =>
          intro w hSw
          unfold LkOk at hSw
          go_simp
          try with_reducible rfl
        try simp only [Act.put, List.setIfInBounds_toArray, List.set_cons_zero, List.set_cons_succ, List.getElem_toArray, List.getElem_cons_zero, List.getElem_cons_succ]
        refine' wpAnyH_take (i := 2) (v := _) rfl (by kernel_rfl) (by kernel_rfl) (by kernel_rfl) (fun _ _ _ h => h) (Or.inl ⟨by rfl, ?ly18⟩) (by assumption) ?lrest18
        case ly18 =>
          intro w hSw
          unfold LkOk at hSw
          go_simp
          try with_reducible rfl
        try simp only [Act.put, List.setIfInBounds_toArray, List.set_cons_zero, List.set_cons_succ, List.getElem_toArray, List.getElem_cons_zero, List.getElem_cons_succ]
        refine' wpAnyH_take (i := 3) (v := _) rfl (by kernel_rfl) (by kernel_rfl) (by kernel_rfl) (fun _ _ _ h => h) (Or.inl ⟨by rfl, ?ly19⟩) (by assumption) ?lrest19
        case ly19 =>
          intro w hSw
          unfold LkOk at hSw
          go_simp
          try with_reducible rfl
        try simp only [Act.put, List.setIfInBounds_toArray, List.set_cons_zero, List.set_cons_succ, List.getElem_toArray, List.getElem_cons_zero, List.getElem_cons_succ]
        refine' wpAnyH_take (i := 4) (v := _) rfl (by kernel_rfl) (by kernel_rfl) (by kernel_rfl) (fun _ _ _ h => h) (Or.inl ⟨by rfl, ?ly20⟩) (by assumption) ?lrest20
        case ly20 =>
          intro w hSw
          unfold LkOk at hSw
          go_simp
          try with_reducible rfl
        try simp only [Act.put, List.setIfInBounds_toArray, List.set_cons_zero, List.set_cons_succ, List.getElem_toArray, List.getElem_cons_zero, List.getElem_cons_succ]
        refine' wpAnyH_take (i := 5) (v := _) rfl (by kernel_rfl) (by kernel_rfl) (by kernel_rfl) (fun _ _ _ h => h) (Or.inl ⟨by rfl, ?ly21⟩) (by assumption) ?lrest21
        case ly21 =>
          intro w hSw
          unfold LkOk at hSw
          go_simp
          try with_reducible rfl
        try simp only [Act.put, List.setIfInBounds_toArray, List.set_cons_zero, List.set_cons_succ, List.getElem_toArray, List.getElem_cons_zero, List.getElem_cons_succ]
        refine' wpAnyH_take (i := 6) (v := _) rfl (by kernel_rfl) (by kernel_rfl) (by kernel_rfl) (fun _ _ _ h => h) (Or.inl ⟨by rfl, ?ly22⟩) (by assumption) ?lrest22
        case ly22 =>
          intro w hSw
          unfold LkOk at hSw
          go_simp
          try with_reducible rfl
        try simp only [Act.put, List.setIfInBounds_toArray, List.set_cons_zero, List.set_cons_succ, List.getElem_toArray, List.getElem_cons_zero, List.getElem_cons_succ]
        refine' wpAnyH_take (i := 7) (v := _) rfl (by kernel_rfl) (by kernel_rfl) (by kernel_rfl) (fun _ _ _ h => h) (Or.inl ⟨by rfl, ?ly23⟩) (by assumption) ?lrest23
        case ly23 =>
          intro w hSw
          unfold LkOk at hSw
          go_simp
          try with_reducible rfl
        try simp only [Act.put, List.setIfInBounds_toArray, List.set_cons_zero, List.set_cons_succ, List.getElem_toArray, List.getElem_cons_zero, List.getElem_cons_succ]
        refine' wpAnyH_take (i := 8) (v := _) rfl (by kernel_rfl) (by kernel_rfl) (by kernel_rfl) (fun _ _ _ h => h) (Or.inl ⟨by rfl, ?ly24⟩) (by assumption) ?lrest24
        case ly24 =>
          intro w hSw
          unfold LkOk at hSw
          go_simp
          try with_reducible rfl
        try simp only [Act.put, List.setIfInBounds_toArray, List.set_cons_zero, List.set_cons_succ, List.getElem_toArray, List.getElem_cons_zero, List.getElem_cons_succ]
        refine' wpAnyH_take (i := 9) (v := _) rfl (by kernel_rfl) (by kernel_rfl) (by kernel_rfl) (fun _ _ _ h => h) (Or.inl ⟨by rfl, ?ly25⟩) (by assumption) ?lrest25
        case ly25 =>
          intro w hSw
          unfold LkOk at hSw
          go_simp
          try with_reducible rfl
        try simp only [Act.put, List.setIfInBounds_toArray, List.set_cons_zero, List.set_cons_succ, List.getElem_toArray, List.getElem_cons_zero, List.getElem_cons_succ]
        refine' wpAnyH_take (i := 10) (v := undef) rfl (by kernel_rfl) (by kernel_rfl) (by kernel_rfl) (fun _ _ _ h => h) (Or.inr ⟨by rfl, rfl⟩) (by assumption) ?lrest26
        try simp only [Act.put, List.setIfInBounds_toArray, List.set_cons_zero, List.set_cons_succ, List.getElem_toArray, List.getElem_cons_zero, List.getElem_cons_succ]
        refine' wpAnyH_take (i := 11) (v := undef) rfl (by kernel_rfl) (by kernel_rfl) (by kernel_rfl) (fun _ _ _ h => h) (Or.inr ⟨by rfl, rfl⟩) (by assumption) ?lrest27
        try simp only [Act.put, List.setIfInBounds_toArray, List.set_cons_zero, List.set_cons_succ, List.getElem_toArray, List.getElem_cons_zero, List.getElem_cons_succ]
        refine' wpAnyH_take (i := 12) (v := _) rfl (by kernel_rfl) (by kernel_rfl) (by kernel_rfl) (fun _ _ _ h => h) (Or.inl ⟨by rfl, ?ly28⟩) (by assumption) ?lrest28
        case ly28 =>
          intro w hSw
          unfold LkOk at hSw
          go_simp
          try with_reducible rfl
        try simp only [Act.put, List.setIfInBounds_toArray, List.set_cons_zero, List.set_cons_succ, List.getElem_toArray, List.getElem_cons_zero, List.getElem_cons_succ]
        refine wpAnyH_ready (rs := [13]) (by kernel_rfl) (by simp) ?_
        refine AllReadyH.cons rfl (fun K hK => ?_) AllReadyH.nil
        go_simp
        refine hK.out _ _ (Hlk.out _ (MBlk.put6 hM hgm).drw) (fun hHeld => ?_)
        clear hK K
        try simp only [Act.put, List.setIfInBounds_toArray, List.set_cons_zero, List.set_cons_succ, List.getElem_toArray, List.getElem_cons_zero, List.getElem_cons_succ]
        refine' wpAnyH_take (i := 14) (v := _) rfl (by kernel_rfl) (by kernel_rfl) (by kernel_rfl) (fun _ _ _ h => h) (Or.inl ⟨by rfl, ?ly30⟩) (by assumption) ?lrest30
        case ly30 =>
          intro w hSw
          unfold LkOk at hSw
          go_simp
          try with_reducible rfl
        try simp only [Act.put, List.setIfInBounds_toArray, List.set_cons_zero, List.set_cons_succ, List.getElem_toArray, List.getElem_cons_zero, List.getElem_cons_succ]
        refine wpAnyH_done (by kernel_rfl) ?_ _
        go_wp2_with fail
        obtain ⟨q1, q2⟩ := sel_put (v0 := .int .u8 0) (v1 := .string T2) (v2 := .bool false) (v3 := .int .u64 0) (v4 := .int .u64 0) (v5 := .int .u8 0) hB6 hb6 (Nat.le_refl _)
        refine bodyPost_ret (results_ct rfl rfl rfl (load_sel q1.drew)) rfl ⟨⟨⟨0, T2, Pf.zero⟩, ?_, ?_⟩, q2.drew⟩
        · rw [HR6.out, if_neg (by simp)]
          rfl
        · intro x hx
          rw [HR6.out, if_neg (by simp)] at hx
          cases hx
end Go.Proofs.YthglckoikjfjkaaGreatDoor

/- Protocols (protos): the walk. -/
namespace Go.Proofs.YthglckoikjfjkaaGreatDoor
open Go.RowKit
attribute [local go_sem ↓] Go.wp_at_zero Go.wp_at_succ

/- What protos hands back. -/
def protoCells (l : List Nat) : List Value := l.map fun x : Nat => Value.int .u8 (x : Int)
def ProtosGot (o : Option (List Nat)) (w : World) (r : Ending) (w' : World) : Prop := (match o with
  | none => r = .returned (.tuple #[.slice none 0 0, .bool false])
  | some L => ∃ v : Value, r = .returned (.tuple #[v, .bool true]) ∧ w'.ownsRow w.heap.size 5 1 v L.length (protoCells L)) ∧ Below w.heap.size w w'
theorem ProtosGot.bad {W w' : World} {o : Option (List Nat)} (h : o = none) (hb : Below W.heap.size W w') : ProtosGot o W (.returned (.tuple #[.slice none 0 0, .bool false])) w' := by rw [h]; exact ⟨rfl, hb⟩
theorem ProtosGot.good {W w' : World} {o : Option (List Nat)} {L : List Nat} {v : Value} (h : o = some L) (ho : w'.ownsRow W.heap.size 5 1 v L.length (protoCells L)) (hb : Below W.heap.size W w') : ProtosGot o W (.returned (.tuple #[v, .bool true])) w' := by rw [h]; exact ⟨⟨v, rfl, ho⟩, hb⟩
theorem info_u8p : (Tryz.prog.info? 5).map (fun i => (i.zero, i.size, i.bytes)) = some (some (.int .u8 0), 1, 1) := by kernel_rfl
def lastN (l : List Nat) : Nat := (l[l.length - 1]?).getD 0
theorem lastN_snoc (l : List Nat) (x : Nat) : lastN (l ++ [x]) = x := by simp [lastN]
theorem protoCells_snoc (l : List Nat) (x : Nat) : protoCells (l ++ [x]) = protoCells l ++ [.int .u8 (x : Int)] := by simp [protoCells]
end Go.Proofs.YthglckoikjfjkaaGreatDoor

/- The policy in memory: rows of rows; what a step may turn. -/
namespace Go.Proofs.YthglckoikjfjkaaGreatDoor
open Go.RowKit

/- What may turn is of these types. -/
def Off (S : Nat → Prop) (w : World) (T : List TypeId) : Prop := ∀ k, S k → ∃ cur e fz, w.heap[k]? = some (.cells cur e fz) ∧ e ∈ T
theorem own_off {S : Nat → Prop} {w w' : World} {T : List TypeId} {base size n : Nat} {e : TypeId} {v : Value} {xs : List Value} (h : w.ownsRow base e size v n xs) (hk : Keeps S w w') (ho : Off S w T) (he : e ∉ T) : w'.ownsRow base e size v n xs := by
  refine own_keep h hk fun g hg hs => ?_
  rcases h.2 with ⟨e1, _⟩ | ⟨g', cap, cur, e1, hb, hg', rest⟩
  · subst e1; cases hg
  · subst e1
    injection hg with hg
    subst hg
    obtain ⟨cur2, e2, fz, hh, hT⟩ := ho _ hs
    rw [hg'] at hh
    injection hh with hh
    injection hh with _ h2 _
    exact he (h2 ▸ hT)
theorem Blk.off {S : Nat → Prop} {w w' : World} {T : List TypeId} {g : Nat} {e : TypeId} {cs : Array Value} (h : Blk w g e cs) (hk : Keeps S w w') (ho : Off S w T) (he : e ∉ T) : Blk w' g e cs := by
  refine h.keep hk fun hs => ?_
  obtain ⟨cur2, e2, fz, hh, hT⟩ := ho _ hs
  unfold Blk at h
  rw [h] at hh
  injection hh with hh
  injection hh with _ h2 _
  exact he (h2 ▸ hT)
theorem ownOff {w : World} {base size n : Nat} {e : TypeId} {v : Value} {xs : List Value} (h : w.ownsRow base e size v n xs) : Off (fun k => v.ownBlock = some k) w [e] := by
  intro k hk
  rcases h.2 with ⟨e1, _⟩ | ⟨g', cap, cur, e1, hb, hg', rest⟩
  · subst e1; cases hk
  · subst e1
    injection hk with hk
    subst hk
    exact ⟨cur, e, (0, 0), hg', List.mem_singleton.2 rfl⟩
theorem Keeps.row {w w' : World} {row : Option Nat} (h : w.grownBy w' row) : Keeps (fun k => row = some k) w w' := Keeps.of_grown h fun k hk => hk
theorem Keeps.grown {S : Nat → Prop} {a w w' : World} {row : Option Nat} (h : Keeps S a w) (hg : w.grownBy w' row) (hr : ∀ k, row = some k → S k ∨ a.heap.size ≤ k) : Keeps S a w' :=
  ⟨hg.os.trans h.os, hg.tape.trans h.tape, hg.output.trans h.output, Nat.le_trans h.size hg.size, fun k hk hs => (hg.block k (Nat.lt_of_lt_of_le hk h.size) (fun e => by
    rcases hr k e.symm with h | h
    · exact hs h
    · omega)).trans (h.block k hk hs)⟩

/- Names: groups, or tags. -/
def strCells (l : List ByteArray) : List Value := l.map Value.string
def nmPair (x : Nm × Value) : ByteArray × Value := (x.1.name, x.2)
def NmRow (w : World) (base : Nat) (v : Value) (l : List Nm) : Prop := ∃ xs : List (Nm × Value), xs.map (·.1) = l ∧ w.ownsRow base 56 2 v l.length (nmCells (xs.map nmPair)) ∧ ∀ x ∈ xs, w.ownsRow base 9 1 x.2 x.1.list.length (strCells x.1.list)
theorem NmRow.nil (w : World) (base : Nat) : NmRow w base (.slice none 0 0) [] := ⟨[], rfl, World.ownsRow_nil _ _ _ _, fun x hx => by cases hx⟩
theorem nmCells_snoc (l : List (ByteArray × Value)) (x : ByteArray × Value) : nmCells (l ++ [x]) = nmCells l ++ [.string x.1, x.2] := by simp [nmCells]
theorem NmRow.keep {S : Nat → Prop} {w w' : World} {T : List TypeId} {base : Nat} {v : Value} {l : List Nm} (h : NmRow w base v l) (hk : Keeps S w w') (ho : Off S w T) (he : 9 ∉ T) (hv : ∀ g, v.ownBlock = some g → ¬ S g) : NmRow w' base v l := by
  obtain ⟨xs, h1, h2, h3⟩ := h
  exact ⟨xs, h1, own_keep h2 hk hv, fun x hx => own_off (h3 x hx) hk ho he⟩
theorem NmRow.below {w w' : World} {base : Nat} {v : Value} {l : List Nm} (h : NmRow w base v l) (hb : Below w.heap.size w w') : NmRow w' base v l := by
  obtain ⟨xs, h1, h2, h3⟩ := h
  exact ⟨xs, h1, own_below h2 hb, fun x hx => own_below (h3 x hx) hb⟩
theorem NmRow.has {w : World} {base : Nat} {v : Value} {l : List Nm} (h : NmRow w base v l) (s : ByteArray) : ∃ ys : List (ByteArray × Value), ys.length = l.length ∧ RowR w v ys.length 2 (nmCells ys) ∧ (ys.any fun x => decide (x.1 = s)) = hasN l s := by
  obtain ⟨xs, rfl, h2, h3⟩ := h
  refine ⟨xs.map nmPair, by simp, ?_, ?_⟩
  · have := RowR.of_own h2
    simpa using this
  · unfold hasN
    rw [List.any_map, List.any_map]
    rfl
theorem NmRow.shape {w : World} {base : Nat} {v : Value} {l : List Nm} (h : NmRow w base v l) : ∃ A cap, v = .slice A l.length cap := by
  obtain ⟨xs, rfl, h2, h3⟩ := h
  exact own_shape h2
/- Accepts. -/
def selCells (l : List Sel) : List Value := l.flatMap fun s => s.cells.toList
def portCells (l : List (Nat × Nat)) : List Value := l.flatMap fun x => [Value.int .u16 (x.1 : Int), .int .u16 (x.2 : Int)]
theorem portCells_snoc (l : List (Nat × Nat)) (x : Nat × Nat) : portCells (l ++ [x]) = portCells l ++ [.int .u16 (x.1 : Int), .int .u16 (x.2 : Int)] := by simp [portCells]
structure AcV where
  a : Ac
  p : Value
  s : Value
  d : Value
  o : Value
structure AcMem (w : World) (base : Nat) (x : AcV) : Prop where
  p : w.ownsRow base 5 1 x.p x.a.protos.length (protoCells x.a.protos)
  s : w.ownsRow base 66 6 x.s x.a.src.length (selCells x.a.src)
  d : w.ownsRow base 66 6 x.d x.a.dst.length (selCells x.a.dst)
  o : w.ownsRow base 68 2 x.o x.a.ports.length (portCells x.a.ports)
def acCells (l : List AcV) : List Value := l.flatMap fun x => [x.p, x.s, x.d, x.o]
theorem acCells_snoc (l : List AcV) (x : AcV) : acCells (l ++ [x]) = acCells l ++ [x.p, x.s, x.d, x.o] := by simp [acCells]
def AcRow (w : World) (base : Nat) (v : Value) (l : List Ac) : Prop := ∃ xs : List AcV, xs.map (·.a) = l ∧ w.ownsRow base 61 4 v l.length (acCells xs) ∧ ∀ x ∈ xs, AcMem w base x
theorem AcRow.nil (w : World) (base : Nat) : AcRow w base (.slice none 0 0) [] := ⟨[], rfl, World.ownsRow_nil _ _ _ _, fun x hx => by cases hx⟩
theorem AcMem.keep {S : Nat → Prop} {w w' : World} {T : List TypeId} {base : Nat} {x : AcV} (h : AcMem w base x) (hk : Keeps S w w') (ho : Off S w T) (h1 : 5 ∉ T) (h2 : 66 ∉ T) (h3 : 68 ∉ T) : AcMem w' base x :=
  ⟨own_off h.p hk ho h1, own_off h.s hk ho h2, own_off h.d hk ho h2, own_off h.o hk ho h3⟩
theorem AcRow.keep {S : Nat → Prop} {w w' : World} {T : List TypeId} {base : Nat} {v : Value} {l : List Ac} (h : AcRow w base v l) (hk : Keeps S w w') (ho : Off S w T) (h1 : 5 ∉ T) (h2 : 66 ∉ T) (h3 : 68 ∉ T) (hv : ∀ g, v.ownBlock = some g → ¬ S g) : AcRow w' base v l := by
  obtain ⟨xs, e, ha, hb⟩ := h
  exact ⟨xs, e, own_keep ha hk hv, fun x hx => (hb x hx).keep hk ho h1 h2 h3⟩
theorem AcRow.shape {w : World} {base : Nat} {v : Value} {l : List Ac} (h : AcRow w base v l) : ∃ A cap, v = .slice A l.length cap := by
  obtain ⟨xs, rfl, h2, h3⟩ := h
  exact own_shape h2
theorem RowR.of_own' {w : World} {base size n m : Nat} {e : TypeId} {v : Value} {xs : List Value} (h : w.ownsRow base e size v n xs) (hm : m = n) : RowR w v m size xs := by subst hm; exact RowR.of_own h

theorem info_nm : (Tryz.prog.info? 56).map (fun i => (i.zero, i.size, i.bytes)) = some (some (.agg #[.string ⟨#[]⟩, .slice none 0 0]), 2, 40) := by kernel_rfl
theorem info_hs : (Tryz.prog.info? 127).map (fun i => (i.zero, i.size, i.bytes)) = some (some (.agg #[.string ⟨#[]⟩, .bool false, .int .u64 0, .int .u64 0, .int .u8 0]), 5, 48) := by kernel_rfl
theorem info_sel : (Tryz.prog.info? 66).map (fun i => (i.zero, i.size, i.bytes)) = some (some (.agg #[.int .u8 0, .string ⟨#[]⟩, .bool false, .int .u64 0, .int .u64 0, .int .u8 0]), 6, 56) := by kernel_rfl
theorem info_po : (Tryz.prog.info? 68).map (fun i => (i.zero, i.size, i.bytes)) = some (some (.agg #[.int .u16 0, .int .u16 0]), 2, 4) := by kernel_rfl
theorem info_ac : (Tryz.prog.info? 61).map (fun i => (i.zero, i.size, i.bytes)) = some (some (.agg #[.slice none 0 0, .slice none 0 0, .slice none 0 0, .slice none 0 0]), 4, 96) := by kernel_rfl
end Go.Proofs.YthglckoikjfjkaaGreatDoor

/- A region that draws its order and whose last operation writes what the others read: S need not hold behind that one. -/
namespace Go.Proofs.YthglckoikjfjkaaGreatDoor

section
variable {P : Program} {ops : Array Oper} {Q : Exit → Act → World → Prop} {md : Region.Mode} {S : World → Prop} {E : Nat}

def wpAnyE (P : Program) (md : Region.Mode) (ops : Array Oper) (Q : Exit → Act → World → Prop) (S : World → Prop) (E : Nat) : Nat → Array Bool → Act → World → Prop
  | 0, l, a, w => Region.ready md ops l = [] ∧ Q .normal a w
  | m + 1, l, a, w => (Region.ready md ops l = [] → Q .normal a w) ∧
    ∀ i ∈ Region.ready md ops l, wpOp P ops Q i (fun a' w' => (i ≠ E → S w') ∧ wpAnyE P md ops Q S E m (l.setIfInBounds i true) a' w') a w
theorem wpAny_of_E : ∀ (m : Nat) (l : Array Bool) (a : Act) (w : World), wpAnyE P md ops Q S E m l a w → wpAny P md ops Q m l a w
  | 0, _, _, _, h => h
  | m + 1, _, _, _, h => ⟨h.1, fun i hi => wpOp_mono (fun a' w' h' => wpAny_of_E m _ a' w' h'.2) (h.2 i hi)⟩
theorem not_waits {l : Array Bool} {i j : Nat} {oj : Oper} (hu : l.getD i true = false) (hall : ∀ e ∈ oj.after, Region.binds md e = true → l.getD e.on false = true) : ∀ e ∈ oj.after, Region.binds md e = true → e.on ≠ i := by
  intro e he hb heq
  have h1 := hall e he hb
  rw [heq] at h1
  rcases Nat.lt_or_ge i l.size with h' | h'
  · simp [h'] at hu h1; rw [hu] at h1; cases h1
  · simp [Array.getElem?_eq_none h'] at h1
/- The last one waits for number i. -/
def waitsFor (md : Region.Mode) (ops : Array Oper) (E i : Nat) : Bool := ((ops[E]?).map fun o => o.after.any fun e => Region.binds md e && decide (e.on = i)).getD false
theorem wpAnyE_first {i : Nat} {oi : Oper} {v : Value} (hi : ops[i]? = some oi) (hsel : ∀ (j : Nat) (o : Oper) cs b, ops[j]? = some o → o.op ≠ .select cs b)
    (hQ : ∀ c a w, Q (.panic c) (a.put oi.dst v) w → Q (.panic c) a w) (hE : waitsFor md ops E i = true) (hiE : i ≠ E) :
    ∀ (m : Nat) (l : Array Bool) (a : Act) (w : World),
      (∀ j oj, ops[j]? = some oj → j ≠ i → l.getD j true = false → (∀ e ∈ oj.after, Region.binds md e = true → e.on ≠ i) → oi.apart ops oj = true) →
      i ∈ Region.ready md ops l → YieldsIf P ops S oi v a → S w →
      wpAnyE P md ops Q S E m (l.setIfInBounds i true) (a.put oi.dst v) w → wpAnyE P md ops Q S E (m + 1) l a w := by
  intro m
  induction m with
  | zero =>
    intro l a w _ hr hy hS H
    refine ⟨fun h => (by rw [h] at hr; cases hr), fun j hj => ?_⟩
    by_cases hji : j = i
    · subst hji; exact hy.wpOp hi hS ⟨fun _ => hS, H⟩
    · have := ready_mono hj hji
      rw [H.1] at this
      cases this
  | succ m ih =>
    intro l a w hfree hr hy hS H
    refine ⟨fun h => (by rw [h] at hr; cases hr), fun j hj => ?_⟩
    by_cases hji : j = i
    · subst hji; exact hy.wpOp hi hS ⟨fun _ => hS, H⟩
    · have h1 := H.2 j (ready_mono hj hji)
      obtain ⟨hjun, oj, hoj, hall⟩ := mem_ready.1 hj
      have hnot := not_waits (j := j) (mem_ready.1 hr).1 hall
      have hjE : j ≠ E := by
        rintro rfl
        unfold waitsFor at hE
        rw [hoj] at hE
        simp only [Option.map_some, Option.getD_some] at hE
        obtain ⟨e, he, h2⟩ := Array.any_eq_true'.1 hE
        simp only [Bool.and_eq_true, decide_eq_true_eq] at h2
        exact hnot e he h2.1 h2.2
      have h2 := wpOp_putIf hoj (hfree j oj hoj hji hjun hnot) (fun cs b => hsel i oi cs b hi) (fun cs b => hsel j oj cs b hoj) hQ hy h1
      have hfree' : ∀ k ok, ops[k]? = some ok → k ≠ i → (l.setIfInBounds j true).getD k true = false →
          (∀ e ∈ ok.after, Region.binds md e = true → e.on ≠ i) → oi.apart ops ok = true := fun k ok hk hki hun hno => by
        refine hfree k ok hk hki ?_ hno
        by_cases hjk : j = k
        · subst hjk; exact hjun
        · rw [getD_set_ne true hjk] at hun; exact hun
      refine wpOp_mono (fun a' w' h3 => ⟨h3.2.1, ih (l.setIfInBounds j true) a' w' hfree' (ready_mono hr (Ne.symm hji)) h3.1 (h3.2.1 hjE) ?_⟩) h2
      rw [Array.setIfInBounds_comm _ _ hji]
      exact h3.2.2
theorem wpAnyE_take {i : Nat} {oi : Oper} {v : Value} {m : Nat} {l : Array Bool} {a : Act} {w : World} (hi : ops[i]? = some oi)
    (hs : Region.noSelect ops = true) (hf : Region.free md ops l i = true) (hr : (Region.ready md ops l).contains i = true)
    (hQ : ∀ c a w, Q (.panic c) (a.put oi.dst v) w → Q (.panic c) a w) (hy : YieldsIf P ops S oi v a) (hS : S w) (hE : (waitsFor md ops E i && decide (i ≠ E)) = true)
    (h : wpAnyE P md ops Q S E m (l.setIfInBounds i true) (a.put oi.dst v) w) : wpAnyE P md ops Q S E (m + 1) l a w := by
  simp only [Bool.and_eq_true, decide_eq_true_eq] at hE
  exact wpAnyE_first hi (Region.noSelect_spec hs) hQ hE.1 hE.2 m l a w (Region.free_spec hi hf) (by simpa using hr) hy hS h
def AllReadyE (P : Program) (md : Region.Mode) (ops : Array Oper) (Q : Exit → Act → World → Prop) (S : World → Prop) (E : Nat) (m : Nat) (l : Array Bool) (a : Act) (w : World) (rs : List Nat) : Prop :=
  ∀ i ∈ rs, wpOp P ops Q i (fun a' w' => (i ≠ E → S w') ∧ wpAnyE P md ops Q S E m (l.setIfInBounds i true) a' w') a w
theorem AllReadyE.nil {m : Nat} {l : Array Bool} {a : Act} {w : World} : AllReadyE P md ops Q S E m l a w [] := fun _ h => by cases h
theorem AllReadyE.cons {m : Nat} {l : Array Bool} {a : Act} {w : World} {i : Nat} {o : Oper} {rs : List Nat} (ho : ops[i]? = some o)
    (h : ∀ K' : Act → World → Prop, Shut (∀ a w, (i ≠ E → S w) → ((i ≠ E → S w) → wpAnyE P md ops Q S E m (l.setIfInBounds i true) a w) → K' a w) → if Region.wanted o (yielded ops a.tmps) = true then Oper.wp P o a w K' Q else K' (a.put o.dst undef) w)
    (hs : AllReadyE P md ops Q S E m l a w rs) : AllReadyE P md ops Q S E m l a w (i :: rs) := fun j hj => by
  rcases List.mem_cons.1 hj with rfl | hj
  · exact wpOp_step ho (fun K' hK => h K' (fun a w hS hW => hK a w ⟨hS, hW hS⟩))
  · exact hs j hj
theorem wpAnyE_ready {rs : List Nat} {m : Nat} {l : Array Bool} {a : Act} {w : World} (hr : Region.ready md ops l = rs) (hne : rs ≠ [])
    (h : AllReadyE P md ops Q S E m l a w rs) : wpAnyE P md ops Q S E (m + 1) l a w := ⟨fun h0 => absurd (hr ▸ h0) hne, hr ▸ h⟩
theorem wpAnyE_done {m : Nat} {l : Array Bool} {a : Act} {w : World} (hr : Region.ready md ops l = []) (h : Q .normal a w) : wpAnyE P md ops Q S E m l a w := by
  cases m with
  | zero => exact ⟨hr, h⟩
  | succ m => exact ⟨fun _ => h, fun i hi => by rw [hr] at hi; cases hi⟩
theorem wp_region_E (E : Nat) (S : World → Prop) {id : Nat} {a : Act} {w : World} (hm : P.follows .mixedOrders = true) (hS : S w.drew)
    (h : S w.drew → wpAnyE P .any ops Q S E ops.size (Array.replicate ops.size false) a w.drew) : (Code.region id ops true).wp P Q a w :=
  wp_region_any hm (wpAny_of_E _ _ _ _ (h hS))
end
end Go.Proofs.YthglckoikjfjkaaGreatDoor

/- A host's line (host): the walk. -/
namespace Go.Proofs.YthglckoikjfjkaaGreatDoor
open Go.RowKit
attribute [local go_sem ↓] Go.wp_at_zero Go.wp_at_succ

theorem below_keeps {S : Nat → Prop} {w0 w w' : World} (h : Below w0.heap.size w0 w) (hk : Keeps S w w') (hS : ∀ k, S k → w0.heap.size ≤ k) : Below w0.heap.size w0 w' :=
  h.trans (hk.below hS h.size)
end Go.Proofs.YthglckoikjfjkaaGreatDoor

/- Selectors, up to a word that ends them (sels): the walk. -/
namespace Go.Proofs.YthglckoikjfjkaaGreatDoor
open Go.RowKit
attribute [local go_sem ↓] Go.wp_at_zero Go.wp_at_succ

theorem sel_none {w : World} {s : ByteArray} (h : Calls Tryz.prog 145 #[.string s] w (SelGot none w)) : Calls Tryz.prog 145 #[.string s] w fun r w' => (∃ (k : Nat) (nm : ByteArray) (v6 : Bool) (hi lo bits : Nat), r = .returned (.tuple #[.agg #[.int .u8 (k : Int), .string nm, .bool v6, .int .u64 (hi : Int), .int .u64 (lo : Int), .int .u8 (bits : Int)], .bool false])) ∧ Below w.heap.size w w' :=
  h.mono fun r w' ⟨⟨s, h1, _⟩, h2⟩ => ⟨⟨s.kind, s.name, s.net.a.v6, s.net.a.hi, s.net.a.lo, s.net.bits, h1⟩, h2⟩
theorem sel_some {w : World} {s : ByteArray} {x : Sel} (h : Calls Tryz.prog 145 #[.string s] w (SelGot (some x) w)) : Calls Tryz.prog 145 #[.string s] w (Got (.tuple #[.agg #[.int .u8 (x.kind : Int), .string x.name, .bool x.net.a.v6, .int .u64 (x.net.a.hi : Int), .int .u64 (x.net.a.lo : Int), .int .u8 (x.net.bits : Int)], .bool true]) w) :=
  h.mono fun r w' ⟨⟨s, h1, h3⟩, h2⟩ => by obtain rfl := h3 _ rfl; exact ⟨h1, h2⟩

end Go.Proofs.YthglckoikjfjkaaGreatDoor

/- An accept's line (accept): the walk. -/
namespace Go.Proofs.YthglckoikjfjkaaGreatDoor
open Go.RowKit
attribute [local go_sem ↓] Go.wp_at_zero Go.wp_at_succ

theorem AcRow.below {w w' : World} {base : Nat} {v : Value} {l : List Ac} (h : AcRow w base v l) (hb : Below w.heap.size w w') : AcRow w' base v l := by
  obtain ⟨xs, e, ha, hm⟩ := h
  exact ⟨xs, e, own_below ha hb, fun x hx => ⟨own_below (hm x hx).p hb, own_below (hm x hx).s hb, own_below (hm x hx).d hb, own_below (hm x hx).o hb⟩⟩
theorem AcRow.off {S : Nat → Prop} {w w' : World} {T : List TypeId} {base : Nat} {v : Value} {l : List Ac} (h : AcRow w base v l) (hk : Keeps S w w') (ho : Off S w T) (h0 : 61 ∉ T) (h1 : 5 ∉ T) (h2 : 66 ∉ T) (h3 : 68 ∉ T) : AcRow w' base v l := by
  obtain ⟨xs, e, ha, hm⟩ := h
  exact ⟨xs, e, own_off ha hk ho h0, fun x hx => (hm x hx).keep hk ho h1 h2 h3⟩
end Go.Proofs.YthglckoikjfjkaaGreatDoor

/- A policy as it is read; what is known (known): the walk. -/
namespace Go.Proofs.YthglckoikjfjkaaGreatDoor
open Go.RowKit
attribute [local go_sem ↓] Go.wp_at_zero Go.wp_at_succ

/- A policy in memory, as it is read, whoever owns it. -/
theorem RowR.empty (w : World) (size : Nat) : RowR w (.slice none 0 0) 0 size [] := ⟨none, 0, rfl, by simp, fun h => absurd h (by decide)⟩
theorem RowR.shape {w : World} {v : Value} {n size : Nat} {xs : List Value} (h : RowR w v n size xs) : ∃ A cap, v = .slice A n cap := by
  obtain ⟨A, cap, e, _⟩ := h
  exact ⟨A, cap, e⟩
def NmRd (w : World) (v : Value) (l : List Nm) : Prop := ∃ xs : List (Nm × Value), xs.map (·.1) = l ∧ RowR w v l.length 2 (nmCells (xs.map nmPair)) ∧ ∀ x ∈ xs, RowR w x.2 x.1.list.length 1 (strCells x.1.list)
theorem NmRow.rd {w : World} {base : Nat} {v : Value} {l : List Nm} (h : NmRow w base v l) : NmRd w v l := by
  obtain ⟨xs, h1, h2, h3⟩ := h
  exact ⟨xs, h1, RowR.of_own h2, fun x hx => RowR.of_own (h3 x hx)⟩
theorem NmRd.below {w w' : World} {v : Value} {l : List Nm} (h : NmRd w v l) (hb : Below w.heap.size w w') : NmRd w' v l := by
  obtain ⟨xs, h1, h2, h3⟩ := h
  exact ⟨xs, h1, h2.below hb, fun x hx => (h3 x hx).below hb⟩
theorem NmRd.has {w : World} {v : Value} {l : List Nm} (h : NmRd w v l) (s : ByteArray) : ∃ ys : List (ByteArray × Value), ys.length = l.length ∧ RowR w v ys.length 2 (nmCells ys) ∧ (ys.any fun x => decide (x.1 = s)) = hasN l s := by
  obtain ⟨xs, rfl, h2, h3⟩ := h
  refine ⟨xs.map nmPair, by simp, ?_, ?_⟩
  · simpa using h2
  · unfold hasN
    rw [List.any_map, List.any_map]
    rfl
structure AcRdM (w : World) (x : AcV) : Prop where
  p : RowR w x.p x.a.protos.length 1 (protoCells x.a.protos)
  s : RowR w x.s x.a.src.length 6 (selCells x.a.src)
  d : RowR w x.d x.a.dst.length 6 (selCells x.a.dst)
  o : RowR w x.o x.a.ports.length 2 (portCells x.a.ports)
def AcRd (w : World) (v : Value) (l : List Ac) : Prop := ∃ xs : List AcV, xs.map (·.a) = l ∧ RowR w v l.length 4 (acCells xs) ∧ ∀ x ∈ xs, AcRdM w x
theorem AcMem.rd {w : World} {base : Nat} {x : AcV} (h : AcMem w base x) : AcRdM w x := ⟨RowR.of_own h.p, RowR.of_own h.s, RowR.of_own h.d, RowR.of_own h.o⟩
theorem AcRow.rd {w : World} {base : Nat} {v : Value} {l : List Ac} (h : AcRow w base v l) : AcRd w v l := by
  obtain ⟨xs, h1, h2, h3⟩ := h
  exact ⟨xs, h1, RowR.of_own h2, fun x hx => (h3 x hx).rd⟩
theorem AcRdM.below {w w' : World} {x : AcV} (h : AcRdM w x) (hb : Below w.heap.size w w') : AcRdM w' x := ⟨h.p.below hb, h.s.below hb, h.d.below hb, h.o.below hb⟩
theorem AcRd.below {w w' : World} {v : Value} {l : List Ac} (h : AcRd w v l) (hb : Below w.heap.size w w') : AcRd w' v l := by
  obtain ⟨xs, h1, h2, h3⟩ := h
  exact ⟨xs, h1, h2.below hb, fun x hx => (h3 x hx).below hb⟩
structure PoV where
  g : Value
  t : Value
  h : Value
  a : Value
def PoV.cells (V : PoV) : Array Value := #[V.g, V.t, V.h, V.a]
structure PoRd (w : World) (V : PoV) (p : Po) : Prop where
  g : NmRd w V.g p.groups
  t : NmRd w V.t p.tags
  h : RowR w V.h p.hosts.length 5 (hsCells p.hosts)
  a : AcRd w V.a p.acls
theorem PoRd.below {w w' : World} {V : PoV} {p : Po} (h : PoRd w V p) (hb : Below w.heap.size w w') : PoRd w' V p := ⟨h.g.below hb, h.t.below hb, h.h.below hb, h.a.below hb⟩
theorem NmRd.shape {w : World} {v : Value} {l : List Nm} (h : NmRd w v l) : ∃ A cap, v = .slice A l.length cap := by
  obtain ⟨xs, _, h2, _⟩ := h
  exact h2.shape
theorem AcRd.shape {w : World} {v : Value} {l : List Ac} (h : AcRd w v l) : ∃ A cap, v = .slice A l.length cap := by
  obtain ⟨xs, _, h2, _⟩ := h
  exact h2.shape

set_option maxHeartbeats 4000000 in
set_option maxRecDepth 100000 in
theorem known_any {w : World} {V : PoV} {p : Po} (h : PoRd w V p) (hg : p.groups.length ≤ 4000000) (ht : p.tags.length ≤ 4000000) (hh : p.hosts.length ≤ 4000000) (s : Sel) :
    Calls Tryz.prog 146 #[.agg #[V.g, V.t, V.h, V.a], .agg #[.int .u8 (s.kind : Int), .string s.name, .bool s.net.a.v6, .int .u64 (s.net.a.hi : Int), .int .u64 (s.net.a.lo : Int), .int .u8 (s.net.bits : Int)]] w (Got (.bool (knownP p s)) w) := by
  obtain ⟨k, nm, ⟨⟨v6, hi, lo⟩, bits⟩⟩ := s
  obtain ⟨gv, tv, hv, av⟩ := V
  simp only
  have b1 := boxed w (.cells #[gv, tv, hv, av] 26)
  have b2 := boxed (w.alloc (.cells #[gv, tv, hv, av] 26)) (.cells #[.int .u8 (k : Int), .string nm, .bool v6, .int .u64 (hi : Int), .int .u64 (lo : Int), .int .u8 (bits : Int)] 66)
  have B1 := Blk.new w 26 #[gv, tv, hv, av]
  have B2 := Blk.new (w.alloc (.cells #[gv, tv, hv, av] 26)) 66 #[.int .u8 (k : Int), .string nm, .bool v6, .int .u64 (hi : Int), .int .u64 (lo : Int), .int .u8 (bits : Int)]
  have B3 := B1.below b2 B1.lt
  have H2 := h.below (after b1 b2)
  have HD := Lib.hid (after b1 b2)
  obtain ⟨G, hG, rg, hga⟩ := H2.g.has nm
  obtain ⟨T, hT, rt, hta⟩ := H2.t.has nm
  have cg := has_any G (by omega) gv rg nm
  have ct := has_any T (by omega) tv rt nm
  have ch := hasHost_any p.hosts hh hv H2.h nm
  obtain ⟨Ag, cg1, eg⟩ := rg.shape
  obtain ⟨At, ct1, et⟩ := rt.shape
  obtain ⟨Ah, ch1, eh⟩ := H2.h.shape
  obtain ⟨Aa, ca1, ea⟩ := H2.a.shape
  simp only at eg et eh ea
  subst eg et eh ea
  rw [hga] at cg
  rw [hta] at ct
  rw [show (p.hosts.any fun x => decide (x.name = nm)) = hasH p.hosts nm from rfl] at ch
  have hkn : knownP p ⟨k, nm, ⟨⟨v6, hi, lo⟩, bits⟩⟩ = if k = 3 then hasN p.groups nm else if k = 4 then hasN p.tags nm else if k = 5 then hasH p.hosts nm else true := rfl
  rw [hkn]
  generalize hasN p.groups nm = RG at cg ⊢
  generalize hasN p.tags nm = RT at ct ⊢
  generalize hasH p.hosts nm = RH at ch ⊢
  generalize G.length = lg at *
  generalize T.length = lt at *
  have x0 := B3.cell 0
  have x1 := B3.cell 1
  have x2 := B3.cell 2
  have y0 := B2.cell 0
  have y1 := B2.cell 1
  simp at x0 x1 x2 y0 y1
  have HG := Lib.hid cg
  have HT := Lib.hid ct
  have HH := Lib.hid ch
  clear hkn h b1 b2 B1 B2 B3 H2 hga hta rg rt cg ct ch hG hT hg ht hh
  by_cases k3 : k = 3
  · rw [if_pos k3]
    have e3 : ((k : Int) == 3) = true := by simp; omega
    clear k3
    go_enter Tryz.func146, Tryz.ntmps146
    go_wp2_with (go_at_call 166; (with_reducible refine HG.out.mono ?_); rintro r w2 ⟨rfl, d2⟩)
    go_ret
    exact ⟨rfl, after HD.out d2⟩
  rw [if_neg k3]
  have q3 : ((k : Int) == 3) = false := by simp; omega
  by_cases k4 : k = 4
  · rw [if_pos k4]
    have e4 : ((k : Int) == 4) = true := by simp; omega
    clear k4
    clear k3
    go_enter Tryz.func146, Tryz.ntmps146
    go_wp2_with (go_at_call 166; (with_reducible refine HT.out.mono ?_); rintro r w2 ⟨rfl, d2⟩)
    go_ret
    exact ⟨rfl, after HD.out d2⟩
  rw [if_neg k4]
  have q4 : ((k : Int) == 4) = false := by simp; omega
  by_cases k5 : k = 5
  · rw [if_pos k5]
    have e5 : ((k : Int) == 5) = true := by simp; omega
    clear k5
    clear k3 k4
    go_enter Tryz.func146, Tryz.ntmps146
    go_wp2_with (go_at_call 167; (with_reducible refine HH.out.mono ?_); rintro r w2 ⟨rfl, d2⟩)
    go_ret
    exact ⟨rfl, after HD.out d2⟩
  rw [if_neg k5]
  have q5 : ((k : Int) == 5) = false := by simp; omega
  clear k3 k4 k5
  go_enter Tryz.func146, Tryz.ntmps146
  go_wp2_with fail
  go_ret
  exact ⟨rfl, HD.out⟩
end Go.Proofs.YthglckoikjfjkaaGreatDoor
