/- Joined out of: WoA HwA PzE OrA. -/
import Derived.Test.YthglckoikjfjkaaGreatDoorSay
import Derived.Test.YthglckoikjfjkaaGreatDoorSas
import Derived.Deep.QuietTactic
import Derived.BigQuiet
set_option linter.unusedVariables false
set_option linter.unusedSimpArgs false

/- The known run of the laws (works): the walk. (printed by works.py) -/
namespace Go.Proofs.YthglckoikjfjkaaGreatDoor
open Go.RowKit
attribute [local go_sem ↓] Go.wp_at_zero Go.wp_at_succ

/- Blocks laid one behind the other. -/
def allocsL (w : World) (os : List Obj) : World := os.foldl World.alloc w
theorem allocsL_below : ∀ (os : List Obj) (w : World), Below w.heap.size w (allocsL w os) := by
  intro os
  induction os with
  | nil => intro w; exact Below.refl _ _
  | cons o r ih => intro w; exact after (boxed w o) (ih (w.alloc o))
theorem allocsL_blk : ∀ (os : List Obj) (w : World) (i : Nat) (cs : Array Value) (t : TypeId), os[i]? = some (.cells cs t) → Blk (allocsL w os) (w.heap.size + i) t cs := by
  intro os
  induction os with
  | nil => intro w i cs t h; cases h
  | cons o r ih =>
    intro w i cs t h
    cases i with
    | zero =>
      injection h with h
      subst h
      have := Blk.new w t cs
      exact this.below (allocsL_below r _) this.lt
    | succ i =>
      have := ih (w.alloc o) i cs t h
      rw [show (w.alloc o).heap.size + i = w.heap.size + (i + 1) by simp; omega] at this
      exact this
theorem row_of_blk {w : World} {g : Nat} {t : TypeId} {cs : Array Value} {n size c : Nat} (h : Blk w g t cs) (hl : cs.toList.length = n * size) : RowR w (.slice (some ⟨g, 0, none⟩) n c) n size cs.toList := by
  refine ⟨some ⟨g, 0, none⟩, c, rfl, hl, fun _ => ⟨g, 0, rfl, fun j u hu => ?_⟩⟩
  rw [Nat.zero_add]
  have := h.cell j
  rw [this, ← Array.getElem?_toList]
  exact hu

/- The policy, the nodes, the flow of the run. -/
def wkAnn : ByteArray := ⟨#[97, 110, 110]⟩
def wkWeb : ByteArray := ⟨#[119, 101, 98]⟩
def wkBob : ByteArray := ⟨#[98, 111, 98]⟩
def wkA : Ad := ⟨false, 0, 167772161⟩
def wkB : Ad := ⟨false, 0, 167772162⟩
def wkAc : Ac := ⟨[6], [⟨2, wkAnn, Pf.zero⟩], [⟨4, wkWeb, Pf.zero⟩], [(80, 80)]⟩
def wkP : Po := ⟨[], [⟨wkWeb, [wkAnn]⟩], [], [wkAc]⟩
def wkL : List Pe := [⟨wkAnn, [], [wkA]⟩, ⟨wkBob, [wkWeb], [wkB]⟩]
def wkF : Fw := ⟨6, wkA, wkB, 0, 80⟩
theorem wk_may : okP wkP = true := by decide +kernel
theorem wk_acl : wkP.acls.any (acP' wkP wkL wkF) = true := by decide +kernel
theorem wk_permits : permitsP wkP wkL wkF = true := by decide +kernel
theorem wk_small : ∀ a ∈ wkP.acls, (a.src.flatMap (spansL wkP wkL)).length ≤ 2000000 := by
  intro a ha
  rw [List.mem_singleton.1 (show a ∈ [wkAc] from ha)]
  decide +kernel
theorem wkA_ok : wkA.Ok := ⟨by decide, by decide⟩
theorem wkB_ok : wkB.Ok := ⟨by decide, by decide⟩
theorem wk_addrs : ∀ x ∈ wkL, ∀ b ∈ x.addrs, b.Ok := by
  intro x hx b hb
  unfold wkL at hx
  simp at hx
  rcases hx with rfl | rfl
  · rw [List.mem_singleton.1 hb]; exact wkA_ok
  · rw [List.mem_singleton.1 hb]; exact wkB_ok
theorem wk_fit : PoFit wkP := by
  have hz : Pf.zero.Ok := ⟨⟨by decide, by decide⟩, by decide⟩
  have h1 : SelFit ⟨2, wkAnn, Pf.zero⟩ := ⟨hz, by decide, by decide⟩
  have h2 : SelFit ⟨4, wkWeb, Pf.zero⟩ := ⟨hz, by decide, by decide⟩
  have h3 : AcFit wkAc := ⟨fun s hs => by rw [List.mem_singleton.1 (show s ∈ [_] from hs)]; exact h1, fun s hs => by rw [List.mem_singleton.1 (show s ∈ [_] from hs)]; exact h2, by decide, by decide, by decide, by decide, fun x hx => by rw [List.mem_singleton.1 (show x ∈ [6] from hx)]; decide, fun x hx => by rw [List.mem_singleton.1 (show x ∈ [(80, 80)] from hx)]; decide⟩
  refine ⟨fun n hn => (by cases hn), fun n hn => ?_, fun n hn => (by cases hn), fun a ha => ?_, by decide, by decide, by decide, by decide⟩
  · rw [List.mem_singleton.1 (show n ∈ [(⟨wkWeb, [wkAnn]⟩ : Nm)] from hn)]
    exact ⟨by decide, by decide, fun s hs => by rw [List.mem_singleton.1 (show s ∈ [wkAnn] from hs)]; decide⟩
  · rw [List.mem_singleton.1 (show a ∈ [wkAc] from ha)]
    exact h3
theorem made_len {p : Po} {l : List Pe} {own : List Ad} {acs : List Ac} {rs : List Rl} (h : Made p l own acs rs) : rs.length = (acs.filter fun a => !(dstL p l own a).isEmpty).length := by
  induction h with
  | nil => rfl
  | @skip acs rs a _ he ih => rw [List.filter_append, List.length_append, ← ih]; simp [he]
  | @more acs rs a r _ he _ ih => rw [List.filter_append, List.length_append, List.length_append, ← ih]; simp [he]
theorem wk_len {rs : List Rl} (h : Made wkP wkL [wkB] wkP.acls rs) : rs.length = 1 := by
  have e : (wkP.acls.filter fun a => !(dstL wkP wkL [wkB] a).isEmpty).length = 1 := by decide +kernel
  rw [made_len h, e]
theorem wk_len0 {rs : List Rl} (h : Made wkP wkL [wkA] wkP.acls rs) : rs.length = 0 := by
  have e : (wkP.acls.filter fun a => !(dstL wkP wkL [wkA] a).isEmpty).length = 0 := by decide +kernel
  rw [made_len h, e]
theorem wk_hit {rs : List Rl} (h : Made wkP wkL [wkB] wkP.acls rs) : rs.any (hitR wkF) = true := by
  have hm := okP_may wk_may
  have := made_hit (f := wkF) (all_ok (fun x hx => (wk_fit.h x hx).2) hm wk_addrs) h (fun a ha => (may_sels hm ha).1) wkA_ok (List.mem_singleton_self wkB) wkB_ok (fun x hx => by rw [List.mem_singleton.1 hx]; exact wkB_ok) (by decide)
  rw [this, wk_acl]
/- What lies in memory. -/
def WkMem (w : World) (g3 g8 g13 : Nat) : Prop := PoRd w ⟨.slice none 0 0, .slice (some ⟨g3, 0, none⟩) 1 1, .slice none 0 0, .slice (some ⟨g8, 0, none⟩) 1 1⟩ wkP ∧ PeRd w (.slice (some ⟨g13, 0, none⟩) 2 2) wkL
theorem WkMem.below {w u : World} {g3 g8 g13 : Nat} (h : WkMem w g3 g8 g13) (hb : Below w.heap.size w u) : WkMem u g3 g8 g13 := ⟨h.1.below hb, h.2.below hb⟩
theorem wk_compile {w : World} (env : Env w) {g3 g8 g13 : Nat} (h : WkMem w g3 g8 g13) {ov : Value} (hr : RowR w ov 1 3 #[.bool false, .int .u64 0, .int .u64 167772162].toList) :
    Calls Tryz.prog 7 #[.agg #[.slice none 0 0, .slice (some ⟨g3, 0, none⟩) 1 1, .slice none 0 0, .slice (some ⟨g8, 0, none⟩) 1 1], .slice (some ⟨g13, 0, none⟩) 2 2, ov] w fun r w' => (∃ (A : Option Addr) (c : Nat), r = .returned (.tuple #[.slice A 1 c, .int .i64 0]) ∧ ∃ rs : List Rl, RlRd w' (.slice A 1 c) rs ∧ rs.length = 1 ∧ rs.any (hitR wkF) = true) ∧ Below w.heap.size w w' := by
  refine (compile_any env h.1 wk_fit h.2 (by decide) wk_addrs (own := [wkB]) hr (by decide) (fun x hx => by rw [List.mem_singleton.1 hx]; exact wkB_ok) wk_small).mono ?_
  rintro r w' ⟨⟨rs, v', E, rfl, hE, hM, _, hR⟩, hb⟩
  rw [wk_may, decide_eq_true_eq] at hE
  subst hE
  have hm := hM wk_may
  have hl := wk_len hm
  obtain ⟨A, c, rfl⟩ := hR.shape
  rw [hl] at hR ⊢
  exact ⟨⟨A, c, rfl, rs, hR, hl, wk_hit hm⟩, hb⟩
theorem wk_compile0 {w : World} (env : Env w) {g3 g8 g13 : Nat} (h : WkMem w g3 g8 g13) {ov : Value} (hr : RowR w ov 1 3 #[.bool false, .int .u64 0, .int .u64 167772161].toList) :
    Calls Tryz.prog 7 #[.agg #[.slice none 0 0, .slice (some ⟨g3, 0, none⟩) 1 1, .slice none 0 0, .slice (some ⟨g8, 0, none⟩) 1 1], .slice (some ⟨g13, 0, none⟩) 2 2, ov] w fun r w' => (∃ (A : Option Addr) (c : Nat), r = .returned (.tuple #[.slice A 0 c, .int .i64 0])) ∧ Below w.heap.size w w' := by
  refine (compile_any env h.1 wk_fit h.2 (by decide) wk_addrs (own := [wkA]) hr (by decide) (fun x hx => by rw [List.mem_singleton.1 hx]; exact wkA_ok) wk_small).mono ?_
  rintro r w' ⟨⟨rs, v', E, rfl, hE, hM, _, hR⟩, hb⟩
  rw [wk_may, decide_eq_true_eq] at hE
  subst hE
  have hl := wk_len0 (hM wk_may)
  obtain ⟨A, c, rfl⟩ := hR.shape
  rw [hl] at hR ⊢
  exact ⟨⟨A, c, rfl⟩, hb⟩
theorem wk_match {w : World} (env : Env w) {A : Option Addr} {c : Nat} {rs : List Rl} (h : RlRd w (.slice A 1 c) rs) (hl : rs.length = 1) (ha : rs.any (hitR wkF) = true) :
    Calls Tryz.prog 11 #[.slice A 1 c, .agg #[.int .u8 6, .bool false, .int .u64 0, .int .u64 167772161, .bool false, .int .u64 0, .int .u64 167772162, .int .u16 0, .int .u16 80, .int .u8 0, .int .u8 0, .int .u8 0, .int .i64 0]] w (Got (.int .i64 0) w) := by
  refine (match_any env h (by omega) wkF wkA_ok wkB_ok ⟨0, 0, 0, 0⟩).mono ?_
  rintro r w' ⟨⟨z, rfl, h1, h2⟩, hb⟩
  rw [ha, decide_eq_true_eq] at h1
  have := h2 h1
  rw [hl] at this
  obtain rfl : z = 0 := by omega
  exact ⟨rfl, hb⟩
theorem wk_permit {w : World} (env : Env w) {g3 g8 g13 : Nat} (h : WkMem w g3 g8 g13) :
    Calls Tryz.prog 12 #[.agg #[.slice none 0 0, .slice (some ⟨g3, 0, none⟩) 1 1, .slice none 0 0, .slice (some ⟨g8, 0, none⟩) 1 1], .slice (some ⟨g13, 0, none⟩) 2 2, .agg #[.int .u8 6, .bool false, .int .u64 0, .int .u64 167772161, .bool false, .int .u64 0, .int .u64 167772162, .int .u16 0, .int .u16 80, .int .u8 0, .int .u8 0, .int .u8 0, .int .i64 0]] w (Got (.bool true) w) := by
  have := permits_any env h.1 wk_fit h.2 (by decide) wkF wkA_ok wkB_ok ⟨0, 0, 0, 0⟩
  rw [wk_permits] at this
  exact this
def wkObjs (w : World) : List Obj := [.cells #[.bool false, .int .u64 0, .int .u64 167772161] 40, .cells #[.bool false, .int .u64 0, .int .u64 167772162] 40, .cells #[.string ⟨#[97, 110, 110]⟩] 9, .cells #[.string ⟨#[119, 101, 98]⟩, .slice (some ⟨w.heap.size + 1 + 1, 0, none⟩) 1 1] 56, .cells #[.int .u8 6] 5, .cells #[.int .u8 2, .string ⟨#[97, 110, 110]⟩, .bool false, .int .u64 0, .int .u64 0, .int .u8 0] 66, .cells #[.int .u8 4, .string ⟨#[119, 101, 98]⟩, .bool false, .int .u64 0, .int .u64 0, .int .u8 0] 66, .cells #[.int .u16 80, .int .u16 80] 68, .cells #[.slice (some ⟨w.heap.size + 1 + 1 + 1 + 1, 0, none⟩) 1 1, .slice (some ⟨w.heap.size + 1 + 1 + 1 + 1 + 1, 0, none⟩) 1 1, .slice (some ⟨w.heap.size + 1 + 1 + 1 + 1 + 1 + 1, 0, none⟩) 1 1, .slice (some ⟨w.heap.size + 1 + 1 + 1 + 1 + 1 + 1 + 1, 0, none⟩) 1 1] 61, .cells #[.slice none 0 0, .slice (some ⟨w.heap.size + 1 + 1 + 1, 0, none⟩) 1 1, .slice none 0 0, .slice (some ⟨w.heap.size + 1 + 1 + 1 + 1 + 1 + 1 + 1 + 1, 0, none⟩) 1 1] 26, .cells #[.bool false, .int .u64 0, .int .u64 167772161] 40, .cells #[.string ⟨#[119, 101, 98]⟩] 9, .cells #[.bool false, .int .u64 0, .int .u64 167772162] 40, .cells #[.string ⟨#[]⟩, .string ⟨#[]⟩, .string ⟨#[97, 110, 110]⟩, .slice none 0 0, .slice (some ⟨w.heap.size + 1 + 1 + 1 + 1 + 1 + 1 + 1 + 1 + 1 + 1, 0, none⟩) 1 1, .int .u64 0, .int .u8 0, .slice none 0 0, .string ⟨#[]⟩, .string ⟨#[]⟩, .string ⟨#[98, 111, 98]⟩, .slice (some ⟨w.heap.size + 1 + 1 + 1 + 1 + 1 + 1 + 1 + 1 + 1 + 1 + 1, 0, none⟩) 1 1, .slice (some ⟨w.heap.size + 1 + 1 + 1 + 1 + 1 + 1 + 1 + 1 + 1 + 1 + 1 + 1, 0, none⟩) 1 1, .int .u64 0, .int .u8 0, .slice none 0 0] 53, .cells #[.int .u8 6, .bool false, .int .u64 0, .int .u64 167772161, .bool false, .int .u64 0, .int .u64 167772162, .int .u16 0, .int .u16 80, .int .u8 0, .int .u8 0, .int .u8 0, .int .i64 0] 46]
theorem wk_mem (w : World) : WkMem (allocsL w (wkObjs w)) (w.heap.size + 1 + 1 + 1) (w.heap.size + 1 + 1 + 1 + 1 + 1 + 1 + 1 + 1) (w.heap.size + 1 + 1 + 1 + 1 + 1 + 1 + 1 + 1 + 1 + 1 + 1 + 1 + 1) := by
  have b2 := allocsL_blk (wkObjs w) w 2 _ _ rfl
  have b3 := allocsL_blk (wkObjs w) w 3 _ _ rfl
  have b4 := allocsL_blk (wkObjs w) w 4 _ _ rfl
  have b5 := allocsL_blk (wkObjs w) w 5 _ _ rfl
  have b6 := allocsL_blk (wkObjs w) w 6 _ _ rfl
  have b7 := allocsL_blk (wkObjs w) w 7 _ _ rfl
  have b8 := allocsL_blk (wkObjs w) w 8 _ _ rfl
  have b10 := allocsL_blk (wkObjs w) w 10 _ _ rfl
  have b11 := allocsL_blk (wkObjs w) w 11 _ _ rfl
  have b12 := allocsL_blk (wkObjs w) w 12 _ _ rfl
  have b13 := allocsL_blk (wkObjs w) w 13 _ _ rfl
  generalize allocsL w (wkObjs w) = W at *
  refine ⟨⟨⟨[], rfl, RowR.empty _ _, fun x hx => (by cases hx)⟩, ⟨[(⟨wkWeb, [wkAnn]⟩, .slice (some ⟨w.heap.size + 1 + 1, 0, none⟩) 1 1)], rfl, row_of_blk b3 rfl, fun x hx => ?_⟩, RowR.empty _ _, ⟨[⟨wkAc, .slice (some ⟨w.heap.size + 1 + 1 + 1 + 1, 0, none⟩) 1 1, .slice (some ⟨w.heap.size + 1 + 1 + 1 + 1 + 1, 0, none⟩) 1 1, .slice (some ⟨w.heap.size + 1 + 1 + 1 + 1 + 1 + 1, 0, none⟩) 1 1, .slice (some ⟨w.heap.size + 1 + 1 + 1 + 1 + 1 + 1 + 1, 0, none⟩) 1 1⟩], rfl, row_of_blk b8 rfl, fun x hx => ?_⟩⟩, [⟨⟨wkAnn, [], [wkA]⟩, ⟨#[]⟩, ⟨#[]⟩, .slice none 0 0, .slice (some ⟨w.heap.size + 1 + 1 + 1 + 1 + 1 + 1 + 1 + 1 + 1 + 1, 0, none⟩) 1 1, 0, 0, .slice none 0 0⟩, ⟨⟨wkBob, [wkWeb], [wkB]⟩, ⟨#[]⟩, ⟨#[]⟩, .slice (some ⟨w.heap.size + 1 + 1 + 1 + 1 + 1 + 1 + 1 + 1 + 1 + 1 + 1, 0, none⟩) 1 1, .slice (some ⟨w.heap.size + 1 + 1 + 1 + 1 + 1 + 1 + 1 + 1 + 1 + 1 + 1 + 1, 0, none⟩) 1 1, 0, 0, .slice none 0 0⟩], rfl, row_of_blk b13 rfl, fun x hx => ?_⟩
  · rw [List.mem_singleton.1 hx]
    exact row_of_blk b2 rfl
  · rw [List.mem_singleton.1 hx]
    exact ⟨row_of_blk b4 rfl, row_of_blk b5 rfl, row_of_blk b6 rfl, row_of_blk b7 rfl⟩
  · simp at hx
    rcases hx with rfl | rfl
    · exact ⟨RowR.empty _ _, row_of_blk b10 rfl, ⟨_, _, _, rfl⟩, by show (0 : Nat) ≤ 4000000; decide, by show (1 : Nat) ≤ 4000000; decide⟩
    · exact ⟨row_of_blk b11 rfl, row_of_blk b12 rfl, ⟨_, _, _, rfl⟩, by show (1 : Nat) ≤ 4000000; decide, by show (1 : Nat) ≤ 4000000; decide⟩

set_option maxHeartbeats 16000000 in
set_option maxRecDepth 100000 in
theorem works_any {w : World} (env : Env w) : Calls Tryz.prog 6 #[] w (Got (.bool true) w) := by
  have hm := wk_mem w
  have hB := allocsL_below (wkObjs w) w
  have hA := allocsL_blk (wkObjs w) w 0 _ _ rfl
  have hC := allocsL_blk (wkObjs w) w 1 _ _ rfl
  have hP := allocsL_blk (wkObjs w) w 9 _ _ rfl
  have hH := allocsL_blk (wkObjs w) w 14 _ _ rfl
  rw [Nat.add_zero] at hA
  have HM := Lib.hid hm
  have HB := Lib.hid hB
  have HA : RowKit.Hid (Blk (allocsL w (wkObjs w)) (w.heap.size) 40 #[.bool false, .int .u64 0, .int .u64 167772161]) := Lib.hid hA
  have HC : RowKit.Hid (Blk (allocsL w (wkObjs w)) (w.heap.size + 1) 40 #[.bool false, .int .u64 0, .int .u64 167772162]) := Lib.hid hC
  have HP : RowKit.Hid (Blk (allocsL w (wkObjs w)) (w.heap.size + 1 + 1 + 1 + 1 + 1 + 1 + 1 + 1 + 1) 26 #[.slice none 0 0, .slice (some ⟨w.heap.size + 1 + 1 + 1, 0, none⟩) 1 1, .slice none 0 0, .slice (some ⟨w.heap.size + 1 + 1 + 1 + 1 + 1 + 1 + 1 + 1, 0, none⟩) 1 1]) := Lib.hid hP
  have HH : RowKit.Hid (Blk (allocsL w (wkObjs w)) (w.heap.size + 1 + 1 + 1 + 1 + 1 + 1 + 1 + 1 + 1 + 1 + 1 + 1 + 1 + 1) 46 #[.int .u8 6, .bool false, .int .u64 0, .int .u64 167772161, .bool false, .int .u64 0, .int .u64 167772162, .int .u16 0, .int .u16 80, .int .u8 0, .int .u8 0, .int .u8 0, .int .i64 0]) := Lib.hid hH
  clear hm hB hA hC hP hH
  go_enter Tryz.func6, Tryz.ntmps6
  go_upto_region 5 with fail
  refine (show Code.wp _ _ _ _ (allocsL w (wkObjs w)) from ?_)
  generalize allocsL w (wkObjs w) = w1 at HM HB HA HC HP HH ⊢
  generalize w.heap.size + 1 + 1 + 1 + 1 + 1 + 1 + 1 + 1 + 1 + 1 + 1 + 1 + 1 + 1 = G14 at HH ⊢
  generalize w.heap.size + 1 + 1 + 1 + 1 + 1 + 1 + 1 + 1 + 1 + 1 + 1 + 1 + 1 = G13 at HM ⊢
  generalize w.heap.size + 1 + 1 + 1 + 1 + 1 + 1 + 1 + 1 + 1 + 1 + 1 + 1 = G12
  generalize w.heap.size + 1 + 1 + 1 + 1 + 1 + 1 + 1 + 1 + 1 + 1 + 1 = G11
  generalize w.heap.size + 1 + 1 + 1 + 1 + 1 + 1 + 1 + 1 + 1 + 1 = G10
  generalize w.heap.size + 1 + 1 + 1 + 1 + 1 + 1 + 1 + 1 + 1 = G9 at HP ⊢
  generalize w.heap.size + 1 + 1 + 1 + 1 + 1 + 1 + 1 + 1 = G8 at HM HP ⊢
  generalize w.heap.size + 1 + 1 + 1 + 1 + 1 + 1 + 1 = G7
  generalize w.heap.size + 1 + 1 + 1 + 1 + 1 + 1 = G6
  generalize w.heap.size + 1 + 1 + 1 + 1 + 1 = G5
  generalize w.heap.size + 1 + 1 + 1 + 1 = G4
  generalize w.heap.size + 1 + 1 + 1 = G3 at HM HP ⊢
  generalize w.heap.size + 1 + 1 = G2
  generalize w.heap.size + 1 = G1 at HC ⊢
  obtain ⟨G0, hG0⟩ : ∃ G0, G0 = w.heap.size := ⟨_, rfl⟩
  rw [← hG0] at HA ⊢
  clear hG0
  have hpc := HP.out.cell 0
  have hpd := HP.out.cell 1
  have hpe := HP.out.cell 2
  have hpf := HP.out.cell 3
  have c0 := HC.out.cell 0
  have c1 := HC.out.cell 1
  have c2 := HC.out.cell 2
  simp at hpc hpd hpe hpf c0 c1 c2
  have hb2 := boxed w1 (.cells #[.bool false, .int .u64 0, .int .u64 167772162] 40)
  have hr2 : RowR (w1.alloc (.cells #[.bool false, .int .u64 0, .int .u64 167772162] 40)) (.slice (some ⟨w1.heap.size, 0, none⟩) 1 1) 1 3 #[.bool false, .int .u64 0, .int .u64 167772162].toList := row_of_blk (Blk.new w1 40 #[.bool false, .int .u64 0, .int .u64 167772162]) rfl
  have HC1 := Lib.hid (wk_compile (env.below (after HB.out hb2)) (HM.out.below hb2) hr2)
  have HB2 := Lib.hid hb2
  clear hr2 hb2
  go_upto_region 6 with (go_at_call 7; (with_reducible refine HC1.out.mono ?_); rintro r w3 ⟨⟨RA, Rc, rfl, rs, hrs, hl, hh⟩, d3⟩; have HRs := Lib.hid hrs; have HRl := Lib.hid hl; have HRh := Lib.hid hh; have HB3 := Lib.hid (after HB2.out d3); clear hrs hl hh d3)
  have HM3 := Lib.hid (HM.out.below HB3.out)
  have HP3 := Lib.hid (HP.out.below HB3.out HP.out.lt)
  have HA3 := Lib.hid (HA.out.below HB3.out HA.out.lt)
  have HH3 := Lib.hid (HH.out.below HB3.out HH.out.lt)
  have HBw := Lib.hid (after HB.out HB3.out)
  clear hpc hpd hpe hpf c0 c1 c2 HM HP HA HC HH HB HB2 HB3 HC1
  have hpc := HP3.out.cell 0
  have hpd := HP3.out.cell 1
  have hpe := HP3.out.cell 2
  have hpf := HP3.out.cell 3
  have a0 := HA3.out.cell 0
  have a1 := HA3.out.cell 1
  have a2 := HA3.out.cell 2
  simp at hpc hpd hpe hpf a0 a1 a2
  have hb2 := boxed w3 (.cells #[.bool false, .int .u64 0, .int .u64 167772161] 40)
  have hr2 : RowR (w3.alloc (.cells #[.bool false, .int .u64 0, .int .u64 167772161] 40)) (.slice (some ⟨w3.heap.size, 0, none⟩) 1 1) 1 3 #[.bool false, .int .u64 0, .int .u64 167772161].toList := row_of_blk (Blk.new w3 40 #[.bool false, .int .u64 0, .int .u64 167772161]) rfl
  have HC1 := Lib.hid (wk_compile0 (env.below (after HBw.out hb2)) (HM3.out.below hb2) hr2)
  have HB2 := Lib.hid hb2
  clear hr2 hb2
  go_upto_region 7 with (go_at_call 7; (with_reducible refine HC1.out.mono ?_); rintro r w5 ⟨⟨QA, Qc, rfl⟩, d3⟩; have HB3 := Lib.hid (after HB2.out d3); clear d3)
  have HM5 := Lib.hid (HM3.out.below HB3.out)
  have HP5 := Lib.hid (HP3.out.below HB3.out HP3.out.lt)
  have HH5 := Lib.hid (HH3.out.below HB3.out HH3.out.lt)
  have HRs5 := Lib.hid (HRs.out.below HB3.out)
  have HBx := Lib.hid (after HBw.out HB3.out)
  clear hpc hpd hpe hpf a0 a1 a2 HM3 HP3 HA3 HH3 HBw HB2 HB3 HC1 HRs
  have HPm := Lib.hid (wk_permit (env.below HBx.out) HM5.out)
  have HMa := Lib.hid (fun u (hu : Below w5.heap.size w5 u) => wk_match (env.below (after HBx.out hu)) (HRs5.out.below hu) HRl.out HRh.out)
  have hpc := HP5.out.cell 0
  have hpd := HP5.out.cell 1
  have hpe := HP5.out.cell 2
  have hpf := HP5.out.cell 3
  simp at hpc hpd hpe hpf
  have h0 := HH5.out.cell 0
  have h1 := HH5.out.cell 1
  have h2 := HH5.out.cell 2
  have h3 := HH5.out.cell 3
  have h4 := HH5.out.cell 4
  have h5 := HH5.out.cell 5
  have h6 := HH5.out.cell 6
  have h7 := HH5.out.cell 7
  have h8 := HH5.out.cell 8
  have h9 := HH5.out.cell 9
  have h10 := HH5.out.cell 10
  have h11 := HH5.out.cell 11
  have h12 := HH5.out.cell 12
  simp at h0 h1 h2 h3 h4 h5 h6 h7 h8 h9 h10 h11 h12
  go_wp2_with (first
    | (go_at_call 12; (with_reducible refine HPm.out.mono ?_); rintro r w6 ⟨rfl, d6⟩; have h0' := cellB h0 d6; have h1' := cellB h1 d6; have h2' := cellB h2 d6; have h3' := cellB h3 d6; have h4' := cellB h4 d6; have h5' := cellB h5 d6; have h6' := cellB h6 d6; have h7' := cellB h7 d6; have h8' := cellB h8 d6; have h9' := cellB h9 d6; have h10' := cellB h10 d6; have h11' := cellB h11 d6; have h12' := cellB h12 d6)
    | (go_at_call 11; (with_reducible refine (HMa.out _ d6).mono ?_); rintro r w7 ⟨rfl, d7⟩))
  go_ret
  exact ⟨by first | rfl | simp, after HBx.out (after d6 d7)⟩
end Go.Proofs.YthglckoikjfjkaaGreatDoor

/- More than a statement goes through (heavy, long): the walks. (printed by heavy5.py) -/
namespace Go.Proofs.YthglckoikjfjkaaGreatDoor
open Go.RowKit
attribute [local go_sem ↓] Go.wp_at_zero Go.wp_at_succ

theorem elem_at {w u : World} {g o n cap size : Nat} {xs : List Value} (h : RowR w (.slice (some ⟨g, o, none⟩) n cap) n size xs) (hb : Below w.heap.size w u) {j r : Nat} {v : Value} (hv : xs[j + r]? = some v) : u.cell? ⟨g, o + j + r, none⟩ = some v := by
  have hn : 0 < n := by
    obtain ⟨A, c, e, hl, _⟩ := h
    have := (List.getElem?_eq_some_iff.1 hv).1
    rw [hl] at this
    exact Nat.pos_of_ne_zero fun h0 => by rw [h0, Nat.zero_mul] at this; omega
  obtain ⟨g', o', e, hc⟩ := h.cell hb hn
  injection e with e
  injection e with e1 e2
  subst e1 e2
  rw [Nat.add_assoc]
  exact hc _ _ hv
set_option maxHeartbeats 16000000 in
set_option maxRecDepth 100000 in
theorem long5_any {w : World} (p : Po) {V : PoV} (h : PoRd w V p) (hf : PoFit p) :
    Calls Tryz.prog 13 #[.agg #[V.g, V.t, V.h, V.a]] w fun r w' => (∃ b : Bool, r = .returned (.bool b)) ∧ Below w.heap.size w w' := by
  obtain ⟨xg, hxg, h1, i1⟩ := h.g
  obtain ⟨xt, hxt, h2, i2⟩ := h.t
  have h3 := h.h
  obtain ⟨xa, hxa, h4, i4⟩ := h.a
  obtain ⟨Ag, cg, eg⟩ := h1.shape
  obtain ⟨At, ct, et⟩ := h2.shape
  obtain ⟨Ah, ch, eh⟩ := h3.shape
  obtain ⟨Aa, ca, ea⟩ := h4.shape
  rw [eg] at h1
  rw [et] at h2
  rw [eh] at h3
  rw [ea] at h4
  rw [eg, et, eh, ea]
  clear eg et eh ea
  obtain ⟨NG, hNG⟩ : ∃ n, n = p.groups.length := ⟨_, rfl⟩
  obtain ⟨NT, hNT⟩ : ∃ n, n = p.tags.length := ⟨_, rfl⟩
  obtain ⟨NH, hNH⟩ : ∃ n, n = p.hosts.length := ⟨_, rfl⟩
  obtain ⟨NA, hNA⟩ : ∃ n, n = p.acls.length := ⟨_, rfl⟩
  have l1 := hf.gl
  have l2 := hf.tl
  have l3 := hf.hl
  have l4 := hf.al
  rw [← hNG] at h1 l1 ⊢
  rw [← hNT] at h2 l2 ⊢
  rw [← hNH] at h3 l3 ⊢
  rw [← hNA] at h4 l4 ⊢
  have H1 := Lib.hid h1
  have H2 := Lib.hid h2
  have H3 := Lib.hid h3
  have H4 := Lib.hid h4
  have I1 := Lib.hid i1
  have I2 := Lib.hid i2
  have I4 := Lib.hid i4
  have HXg := Lib.hid hxg
  have HXt := Lib.hid hxt
  have HXa := Lib.hid hxa
  have HNG := Lib.hid hNG
  have HNT := Lib.hid hNT
  have HNH := Lib.hid hNH
  have HNA := Lib.hid hNA
  have HFit := Lib.hid hf
  clear h1 h2 h3 h4 i1 i2 i4 hxg hxt hxa hNG hNT hNH hNA hf
  clear h
  go_enter Tryz.func13, Tryz.ntmps13
  go_upto_region 1 with fail
  have hP := Blk.new w 26 #[.slice Ag NG cg, .slice At NT ct, .slice Ah NH ch, .slice Aa NA ca]
  have hD := boxed w (.cells #[.slice Ag NG cg, .slice At NT ct, .slice Ah NH ch, .slice Aa NA ca] 26)
  have HP := Lib.hid hP
  have HD := Lib.hid hD
  clear hP hD
  generalize w.alloc (.cells #[.slice Ag NG cg, .slice At NT ct, .slice Ah NH ch, .slice Aa NA ca] 26) = w2 at HP HD ⊢
  obtain ⟨P, hPe⟩ : ∃ P, P = w.heap.size := ⟨_, rfl⟩
  rw [← hPe] at HP ⊢
  clear hPe
  have a0 := HP.out.cell 0
  simp at a0
  go_wp2_with fail
  clear a0
  go_loopw [3, 4] (fun v3 v4 wr => ∃ (k : Nat) (z : Int), k ≤ NG ∧ v3 = .int .i64 z ∧ v4 = .int .i64 (k : Int) ∧ RowKit.Hid (Below w.heap.size w wr) ∧ RowKit.Hid (Blk wr P 26 #[.slice Ag NG cg, .slice At NT ct, .slice Ah NH ch, .slice Aa NA ca])) (fun _ v4 _ => NG - (intOf v4).toNat)
  case atStart => exact ⟨0, 0, Nat.zero_le _, rfl, rfl, HD, HP⟩
  case round =>
    clear HD HP
    obtain ⟨k, z, hk, rfl, rfl, HD, HP⟩ := hrel
    have a0 := HP.out.cell 0
    simp at a0
    obtain ⟨wo, rfl⟩ : ∃ wo : World, wo = wr := ⟨_, rfl⟩
    by_cases hlt : k < NG
    case pos =>
      have hlx := congrArg List.length HXg.out
      rw [List.length_map] at hlx
      have hkl : k < p.groups.length := by have := HNG.out; omega
      obtain ⟨X, hX⟩ : ∃ X, xg[k]? = some X := ⟨_, List.getElem?_eq_getElem (by omega)⟩
      have hXl : p.groups[k]? = some X.1 := by rw [← HXg.out, List.getElem?_map, hX]; rfl
      have hcx := nmCells_at (xg.map nmPair) k (nmPair X) (by rw [List.getElem?_map, hX]; rfl)
      obtain ⟨q, o, rfl, hc⟩ := H1.out.cell HD.out (by omega)
      have d1 := hc _ _ hcx.2
      rw [← Nat.add_assoc] at d1
      have rX := I1.out X (List.mem_of_getElem? hX)
      have hXf := HFit.out.g X.1 (List.mem_of_getElem? hXl)
      have hc0 := fun u (hu : Below w.heap.size w u) => elem_at H1.out hu hcx.2
      obtain ⟨⟨nm, ls⟩, lv⟩ := X
      unfold nmPair at d1 hc0
      simp only at d1 rX hXf hc0
      obtain ⟨A2, c2, rfl⟩ := rX.shape
      obtain ⟨n2, hn2⟩ : ∃ n, n = ls.length := ⟨_, rfl⟩
      rw [← hn2] at d1 rX hc0
      have hl2 : n2 ≤ 2000000 := by have := hXf.len; simp only at this; omega
      have HN2 := Lib.hid hn2
      have hc0 := Lib.hid hc0
      have HRX := Lib.hid rX
      clear hlx hkl hX hXl hcx hc rX hXf hn2
      go_upto_region 6 with fail
      clear a0
      go_loopw [3, 5] (fun v3 v5 wr => ∃ (i : Nat) (y : Int), i ≤ n2 ∧ v3 = .int .i64 y ∧ v5 = .int .i64 (i : Int) ∧ RowKit.Hid (Below w.heap.size w wr) ∧ RowKit.Hid (Blk wr P 26 #[.slice (some ⟨q, o, none⟩) NG cg, .slice At NT ct, .slice Ah NH ch, .slice Aa NA ca])) (fun _ v5 _ => n2 - (intOf v5).toNat)
      case atStart => exact ⟨0, _, Nat.zero_le _, rfl, rfl, HD, HP⟩
      case round =>
        have HD0 := HD
        clear HD HP
        obtain ⟨i, y, hi, rfl, rfl, HD, HP⟩ := hrel
        have a0 := HP.out.cell 0
        simp at a0
        have d1' := hc0.out _ HD.out
        by_cases hlt2 : i < n2
        · have hkl2 : i < ls.length := by have := HN2.out; omega
          obtain ⟨q2, o2, rfl, hc2⟩ := HRX.out.cell HD.out (by omega)
          have ds := hc2 _ _ (strCells_at (List.getElem?_eq_getElem hkl2))
          generalize ls[i] = s at ds
          clear hc2 hkl2
          go_wp2_with fail
          go_roundw
          case rel => exact ⟨i + 1, _, by omega, rfl, by go_num, HD, HP⟩
          case measure => simp [intOf]; omega
        · go_wp2_with fail
          go_roundw
          case rel => exact ⟨k + 1, _, by omega, rfl, by go_num, HD, HP⟩
          case measure => simp [intOf]; omega
    obtain rfl : NG = k := by omega
    have a3 := HP.out.cell 3
    simp at a3
    go_wp2_with fail
    clear a0 a3
    go_loopw [3, 6] (fun v3 v6 wr => ∃ (k : Nat) (z : Int), k ≤ NA ∧ v3 = .int .i64 z ∧ v6 = .int .i64 (k : Int) ∧ RowKit.Hid (Below w.heap.size w wr) ∧ RowKit.Hid (Blk wr P 26 #[.slice Ag NG cg, .slice At NT ct, .slice Ah NH ch, .slice Aa NA ca])) (fun _ v6 _ => NA - (intOf v6).toNat)
    case atStart => exact ⟨0, _, Nat.zero_le _, rfl, rfl, HD, HP⟩
    case round =>
      clear HD HP
      obtain ⟨k, z, hk, rfl, rfl, HD, HP⟩ := hrel
      have a3 := HP.out.cell 3
      simp at a3
      by_cases hlt : k < NA
      case pos =>
        have hlx := congrArg List.length HXa.out
        rw [List.length_map] at hlx
        obtain ⟨X, hX⟩ : ∃ X, xa[k]? = some X := ⟨_, List.getElem?_eq_getElem (by have := HNA.out; omega)⟩
        have hXl : p.acls[k]? = some X.a := by rw [← HXa.out, List.getElem?_map, hX]; rfl
        obtain ⟨q, o, rfl, hc⟩ := H4.out.cell HD.out (by omega)
        obtain ⟨e0, e1, e2, e3⟩ := acCells_at xa k X hX
        have d0 := hc _ _ e0
        have d1 := hc _ _ e1
        have d2 := hc _ _ e2
        have d3 := hc _ _ e3
        rw [← Nat.add_assoc] at d1 d2 d3
        have hc1 := fun u (hu : Below w.heap.size w u) => elem_at H4.out hu e1
        have hc2 := fun u (hu : Below w.heap.size w u) => elem_at H4.out hu e2
        have rX := I4.out X (List.mem_of_getElem? hX)
        have hXf := HFit.out.a X.a (List.mem_of_getElem? hXl)
        obtain ⟨A1, c1, g1⟩ := rX.p.shape
        obtain ⟨A2, c2, g2⟩ := rX.s.shape
        obtain ⟨A3, c3, g3⟩ := rX.d.shape
        obtain ⟨A4, c4, g4⟩ := rX.o.shape
        have rs := rX.s
        have rd := rX.d
        rw [g1] at d0
        rw [g2] at d1 rs
        rw [g2] at hc1
        rw [g3] at d2 rd
        rw [g3] at hc2
        rw [g4] at d3
        have f1 := hXf.pl
        have f2 := hXf.sl
        have f3 := hXf.dl
        have f4 := hXf.ol
        obtain ⟨n1, hn1⟩ : ∃ n, n = X.a.protos.length := ⟨_, rfl⟩
        obtain ⟨n2, hn2⟩ : ∃ n, n = X.a.src.length := ⟨_, rfl⟩
        obtain ⟨n3, hn3⟩ : ∃ n, n = X.a.dst.length := ⟨_, rfl⟩
        obtain ⟨n4, hn4⟩ : ∃ n, n = X.a.ports.length := ⟨_, rfl⟩
        rw [← hn1] at d0 f1
        rw [← hn2] at d1 rs f2 hc1
        rw [← hn3] at d2 rd f3 hc2
        rw [← hn4] at d3 f4
        have hc1 := Lib.hid hc1
        have hc2 := Lib.hid hc2
        have HN2 := Lib.hid hn2
        have HN3 := Lib.hid hn3
        have RS := Lib.hid rs
        have RD := Lib.hid rd
        have HXl := Lib.hid hXl
        clear hlx hX hXl hc e0 e1 e2 e3 rX hXf g1 g2 g3 g4 hn1 hn2 hn3 hn4 rs rd
        generalize X.a = a at HN2 HN3 HXl RS RD
        clear d0 d3
        go_upto_region 13 with fail
        clear a3
        go_loopw [3, 7] (fun v3 v7 wr => ∃ (i : Nat) (y : Int), i ≤ n2 ∧ v3 = .int .i64 y ∧ v7 = .int .i64 (i : Int) ∧ RowKit.Hid (Below w.heap.size w wr) ∧ RowKit.Hid (Blk wr P 26 #[.slice Ag NG cg, .slice At NT ct, .slice Ah NH ch, .slice (some ⟨q, o, none⟩) NA ca])) (fun _ v7 _ => n2 - (intOf v7).toNat)
        case atStart => exact ⟨0, _, Nat.zero_le _, rfl, rfl, HD, HP⟩
        case round =>
          clear HD HP
          obtain ⟨i, y, hi, rfl, rfl, HD, HP⟩ := hrel
          have a3 := HP.out.cell 3
          simp at a3
          have d1' := hc1.out _ HD.out
          have d2' := hc2.out _ HD.out
          by_cases hlt2 : i < n2
          case pos =>
            have hkl2 : i < a.src.length := by have := HN2.out; omega
            obtain ⟨q2, o2, rfl, hcc⟩ := RS.out.cell HD.out (by omega)
            have ds := hcc _ _ (selCells_at a.src i _ (List.getElem?_eq_getElem hkl2)).2.1
            rw [← Nat.add_assoc] at ds
            generalize a.src[i] = Y at ds
            obtain ⟨yk, s, yn⟩ := Y
            simp only at ds
            clear hcc hkl2
            go_wp2_with fail
            go_roundw
            case rel => exact ⟨i + 1, _, by omega, rfl, by go_num, HD, HP⟩
            case measure => simp [intOf]; omega
          go_wp2_with fail
          clear a3 d1' d2'
          go_loopw [3, 8] (fun v3 v8 wr => ∃ (i : Nat) (y : Int), i ≤ n3 ∧ v3 = .int .i64 y ∧ v8 = .int .i64 (i : Int) ∧ RowKit.Hid (Below w.heap.size w wr) ∧ RowKit.Hid (Blk wr P 26 #[.slice Ag NG cg, .slice At NT ct, .slice Ah NH ch, .slice (some ⟨q, o, none⟩) NA ca])) (fun _ v8 _ => n3 - (intOf v8).toNat)
          case atStart => exact ⟨0, _, Nat.zero_le _, rfl, rfl, HD, HP⟩
          case round =>
            clear HD HP
            obtain ⟨i, y, hi, rfl, rfl, HD, HP⟩ := hrel
            have a3 := HP.out.cell 3
            simp at a3
            have d2' := hc2.out _ HD.out
            by_cases hlt3 : i < n3
            case pos =>
              have hkl2 : i < a.dst.length := by have := HN3.out; omega
              obtain ⟨q2, o2, rfl, hcc⟩ := RD.out.cell HD.out (by omega)
              have ds := hcc _ _ (selCells_at a.dst i _ (List.getElem?_eq_getElem hkl2)).2.1
              rw [← Nat.add_assoc] at ds
              generalize a.dst[i] = Y at ds
              obtain ⟨yk, s, yn⟩ := Y
              simp only at ds
              clear hcc hkl2
              go_wp2_with fail
              go_roundw
              case rel => exact ⟨i + 1, _, by omega, rfl, by go_num, HD, HP⟩
              case measure => simp [intOf]; omega
            go_wp2_with fail
            go_roundw
            case rel => exact ⟨k + 1, _, by omega, rfl, by go_num, HD, HP⟩
            case measure => simp [intOf]; omega
      obtain rfl : NA = k := by omega
      go_wp2_with fail
      go_ret
      exact ⟨⟨_, rfl⟩, HD.out⟩

def sumA (l : List Pe) (k : Nat) : Nat := ((l.take k).map fun x => x.addrs.length).sum
theorem sumA_succ {l : List Pe} {k : Nat} {x : Pe} (h : l[k]? = some x) : sumA l (k + 1) = sumA l k + x.addrs.length := by
  unfold sumA
  rw [take_next h, List.map_append, List.sum_append]
  simp
theorem sumA_end (l : List Pe) : sumA l l.length = (l.map fun x => x.addrs.length).sum := by
  unfold sumA
  rw [List.take_of_length_le (Nat.le_refl _)]
/- The nodes as they come in, read as the law reads them. -/
def PeRdIn (w : World) (v : Value) (xs : List PeV) : Prop := RowR w v xs.length 8 (peCells xs) ∧ (∀ X ∈ xs, PeIn w X) ∧ xs.length ≤ 1048576
theorem PeRdIn.below {w w' : World} {v : Value} {xs : List PeV} (h : PeRdIn w v xs) (hb : Below w.heap.size w w') : PeRdIn w' v xs := ⟨h.1.below hb, fun X hX => (h.2.1 X hX).below hb, h.2.2⟩
theorem PeRdIn.rd {w : World} {v : Value} {xs : List PeV} (h : PeRdIn w v xs) : PeRd w v (xs.map (·.x)) := ⟨xs, rfl, h.1, fun X hX => (h.2.1 X hX).mem⟩
def HeavyR (p : Po) (l : List Pe) (n : Nat) (r : Ending) : Prop := ∃ b : Bool, r = .returned (.bool b) ∧ (b = false → (∀ a ∈ p.acls, a.src.length ≤ 400) ∧ sumA l n ≤ 400)
theorem pe_open3 {w : World} {X : PeV} (h : PeIn w X) : ∃ (A1 : Option Addr) (n1 c1 : Nat) (A2 : Option Addr) (c2 : Nat) (A3 : Option Addr) (n3 c3 : Nat), X.tg = .slice A1 n1 c1 ∧ X.ad = .slice A2 X.x.addrs.length c2 ∧ X.en = .slice A3 n3 c3 ∧ n1 ≤ 1048576 ∧ n3 ≤ 1048576 := by
  obtain ⟨A1, c1, e1⟩ := h.mem.tags.shape
  obtain ⟨A2, c2, e2⟩ := h.mem.addrs.shape
  obtain ⟨es, hr, hl⟩ := h.ends
  obtain ⟨A3, c3, e3⟩ := hr.shape
  exact ⟨A1, _, c1, A2, c2, A3, _, c3, e1, e2, e3, h.tl, hl⟩
set_option maxHeartbeats 16000000 in
set_option maxRecDepth 100000 in
theorem heavy5_any {w : World} (p : Po) {V : PoV} (h : PoRd w V p) (hf : PoFit p) {pv : Value} {xs : List PeV} (hp : PeRdIn w pv xs) :
    Calls Tryz.prog 5 #[.agg #[V.g, V.t, V.h, V.a], pv] w fun r w' => HeavyR p (xs.map (·.x)) xs.length r ∧ Below w.heap.size w w' := by
  obtain ⟨xg, hxg, h1, i1⟩ := h.g
  obtain ⟨xt, hxt, h2, i2⟩ := h.t
  have h3 := h.h
  obtain ⟨xa, hxa, h4, i4⟩ := h.a
  obtain ⟨Ag, cg, eg⟩ := h1.shape
  obtain ⟨At, ct, et⟩ := h2.shape
  obtain ⟨Ah, ch, eh⟩ := h3.shape
  obtain ⟨Aa, ca, ea⟩ := h4.shape
  rw [eg] at h1
  rw [et] at h2
  rw [eh] at h3
  rw [ea] at h4
  have hlong := fun u (hu : Below w.heap.size w u) => long5_any p (h.below hu) hf
  rw [eg, et, eh, ea] at hlong
  rw [eg, et, eh, ea]
  clear eg et eh ea
  obtain ⟨NG, hNG⟩ : ∃ n, n = p.groups.length := ⟨_, rfl⟩
  obtain ⟨NT, hNT⟩ : ∃ n, n = p.tags.length := ⟨_, rfl⟩
  obtain ⟨NH, hNH⟩ : ∃ n, n = p.hosts.length := ⟨_, rfl⟩
  obtain ⟨NA, hNA⟩ : ∃ n, n = p.acls.length := ⟨_, rfl⟩
  have l1 := hf.gl
  have l2 := hf.tl
  have l3 := hf.hl
  have l4 := hf.al
  rw [← hNG] at h1 l1 ⊢
  rw [← hNT] at h2 l2 ⊢
  rw [← hNH] at h3 l3 ⊢
  rw [← hNA] at h4 l4 ⊢
  have H1 := Lib.hid h1
  have H2 := Lib.hid h2
  have H3 := Lib.hid h3
  have H4 := Lib.hid h4
  have I1 := Lib.hid i1
  have I2 := Lib.hid i2
  have I4 := Lib.hid i4
  have HXg := Lib.hid hxg
  have HXt := Lib.hid hxt
  have HXa := Lib.hid hxa
  have HNG := Lib.hid hNG
  have HNT := Lib.hid hNT
  have HNH := Lib.hid hNH
  have HNA := Lib.hid hNA
  have HFit := Lib.hid hf
  clear h1 h2 h3 h4 i1 i2 i4 hxg hxt hxa hNG hNT hNH hNA hf
  have HLong := Lib.hid hlong
  clear hlong h
  obtain ⟨hpr, hpi, hpl⟩ := hp
  obtain ⟨Ap, cp, rfl⟩ := hpr.shape
  obtain ⟨NL, hNL⟩ : ∃ n, n = xs.length := ⟨_, rfl⟩
  rw [← hNL] at hpr hpl ⊢
  have HNL := Lib.hid hNL
  have HPr := Lib.hid hpr
  have HPi := Lib.hid hpi
  clear hNL hpr hpi
  rw [← HNG.out, ← HNT.out, ← HNH.out, ← HNA.out] at HLong
  go_enter Tryz.func5, Tryz.ntmps5
  go_upto_region 1 with fail
  have hP := Blk.new w 26 #[.slice Ag NG cg, .slice At NT ct, .slice Ah NH ch, .slice Aa NA ca]
  have hD := boxed w (.cells #[.slice Ag NG cg, .slice At NT ct, .slice Ah NH ch, .slice Aa NA ca] 26)
  have HP := Lib.hid hP
  have HD := Lib.hid hD
  clear hP hD
  generalize w.alloc (.cells #[.slice Ag NG cg, .slice At NT ct, .slice Ah NH ch, .slice Aa NA ca] 26) = w2 at HP HD ⊢
  obtain ⟨P, hPe⟩ : ∃ P, P = w.heap.size := ⟨_, rfl⟩
  rw [← hPe] at HP ⊢
  clear hPe
  have a0 := HP.out.cell 0
  have a1 := HP.out.cell 1
  have a2 := HP.out.cell 2
  have a3 := HP.out.cell 3
  simp at a0 a1 a2 a3
  by_cases h40 : 40 < NG + NT + NH + NA
  · have q1 : (40 : Int) < (NG : Int) + (NT : Int) + (NH : Int) + (NA : Int) := by omega
    clear h40
    go_wp2_with fail
    go_ret
    exact ⟨⟨_, rfl, fun h => by cases h⟩, HD.out⟩
  have q1 : ¬ (40 : Int) < (NG : Int) + (NT : Int) + (NH : Int) + (NA : Int) := by omega
  by_cases h30 : 30 < NL
  · have q2 : (30 : Int) < (NL : Int) := by omega
    clear h30
    go_wp2_with fail
    go_ret
    exact ⟨⟨_, rfl, fun h => by cases h⟩, HD.out⟩
  have q2 : ¬ (30 : Int) < (NL : Int) := by omega
  go_wp2_with fail
  clear q1 q2 a0 a1 a2 a3
  go_loopw [5, 6] (fun v5 v6 wr => ∃ (k n : Nat), k ≤ NG ∧ n ≤ 2000000 * k ∧ v5 = .int .i64 (n : Int) ∧ v6 = .int .i64 (k : Int) ∧ RowKit.Hid (Below w.heap.size w wr) ∧ RowKit.Hid (Blk wr P 26 #[.slice Ag NG cg, .slice At NT ct, .slice Ah NH ch, .slice Aa NA ca])) (fun _ v6 _ => NG - (intOf v6).toNat)
  case atStart => exact ⟨0, 0, Nat.zero_le _, Nat.zero_le _, rfl, rfl, HD, HP⟩
  case round =>
    clear HD HP
    obtain ⟨k, n, hk, hn, rfl, rfl, HD, HP⟩ := hrel
    have a0 := HP.out.cell 0
    simp at a0
    by_cases hlt : k < NG
    case pos =>
      have hlx := congrArg List.length HXg.out
      rw [List.length_map] at hlx
      have hkl : k < p.groups.length := by have := HNG.out; omega
      obtain ⟨X, hX⟩ : ∃ X, xg[k]? = some X := ⟨_, List.getElem?_eq_getElem (by omega)⟩
      have hXl : p.groups[k]? = some X.1 := by rw [← HXg.out, List.getElem?_map, hX]; rfl
      have hcx := nmCells_at (xg.map nmPair) k (nmPair X) (by rw [List.getElem?_map, hX]; rfl)
      obtain ⟨q, o, rfl, hc⟩ := H1.out.cell HD.out (by omega)
      have d1 := hc _ _ hcx.2
      rw [← Nat.add_assoc] at d1
      have rX := I1.out X (List.mem_of_getElem? hX)
      have hXf := HFit.out.g X.1 (List.mem_of_getElem? hXl)
      obtain ⟨⟨nm, ls⟩, lv⟩ := X
      unfold nmPair at d1
      simp only at d1 rX hXf
      obtain ⟨A2, c2, rfl⟩ := rX.shape
      obtain ⟨n2, hn2⟩ : ∃ n, n = ls.length := ⟨_, rfl⟩
      rw [← hn2] at d1 rX
      have hl2 : n2 ≤ 2000000 := by have := hXf.len; simp only at this; omega
      have HN2 := Lib.hid hn2
      have HRX := Lib.hid rX
      clear hlx hkl hX hXl hcx hc rX hXf hn2
      go_wp2_with fail
      go_roundw
      case rel => exact ⟨k + 1, n + n2, by omega, by omega, by go_num, by go_num, HD, HP⟩
      case measure => simp [intOf]; omega
    obtain rfl : NG = k := by omega
    have a1 := HP.out.cell 1
    simp at a1
    go_wp2_with fail
    clear a0 a1
    go_loopw [5, 7] (fun v5 v7 wr => ∃ (k n : Nat), k ≤ NT ∧ n ≤ 80000000 + 2000000 * k ∧ v5 = .int .i64 (n : Int) ∧ v7 = .int .i64 (k : Int) ∧ RowKit.Hid (Below w.heap.size w wr) ∧ RowKit.Hid (Blk wr P 26 #[.slice Ag NG cg, .slice At NT ct, .slice Ah NH ch, .slice Aa NA ca])) (fun _ v7 _ => NT - (intOf v7).toNat)
    case atStart => exact ⟨0, n, Nat.zero_le _, by omega, rfl, rfl, HD, HP⟩
    case round =>
      clear HD HP hn
      obtain ⟨k, n, hk, hn, rfl, rfl, HD, HP⟩ := hrel
      have a1 := HP.out.cell 1
      simp at a1
      by_cases hlt : k < NT
      case pos =>
        have hlx := congrArg List.length HXt.out
        rw [List.length_map] at hlx
        have hkl : k < p.tags.length := by have := HNT.out; omega
        obtain ⟨X, hX⟩ : ∃ X, xt[k]? = some X := ⟨_, List.getElem?_eq_getElem (by omega)⟩
        have hXl : p.tags[k]? = some X.1 := by rw [← HXt.out, List.getElem?_map, hX]; rfl
        have hcx := nmCells_at (xt.map nmPair) k (nmPair X) (by rw [List.getElem?_map, hX]; rfl)
        obtain ⟨q, o, rfl, hc⟩ := H2.out.cell HD.out (by omega)
        have d1 := hc _ _ hcx.2
        rw [← Nat.add_assoc] at d1
        have rX := I2.out X (List.mem_of_getElem? hX)
        have hXf := HFit.out.t X.1 (List.mem_of_getElem? hXl)
        obtain ⟨⟨nm, ls⟩, lv⟩ := X
        unfold nmPair at d1
        simp only at d1 rX hXf
        obtain ⟨A2, c2, rfl⟩ := rX.shape
        obtain ⟨n2, hn2⟩ : ∃ n, n = ls.length := ⟨_, rfl⟩
        rw [← hn2] at d1 rX
        have hl2 : n2 ≤ 2000000 := by have := hXf.len; simp only at this; omega
        have HN2 := Lib.hid hn2
        have HRX := Lib.hid rX
        clear hlx hkl hX hXl hcx hc rX hXf hn2
        go_wp2_with fail
        go_roundw
        case rel => exact ⟨k + 1, n + n2, by omega, by omega, by go_num, by go_num, HD, HP⟩
        case measure => simp [intOf]; omega
      obtain rfl : NT = k := by omega
      have a3 := HP.out.cell 3
      simp at a3
      go_wp2_with fail
      clear a1 a3
      go_loopw [5, 8] (fun v5 v8 wr => ∃ (k n : Nat), k ≤ NA ∧ n ≤ 160000000 + 8000000 * k ∧ v5 = .int .i64 (n : Int) ∧ v8 = .int .i64 (k : Int) ∧ RowKit.Hid (∀ j a, j < k → p.acls[j]? = some a → a.src.length ≤ n) ∧ RowKit.Hid (Below w.heap.size w wr) ∧ RowKit.Hid (Blk wr P 26 #[.slice Ag NG cg, .slice At NT ct, .slice Ah NH ch, .slice Aa NA ca])) (fun _ v8 _ => NA - (intOf v8).toNat)
      case atStart => exact ⟨0, n, Nat.zero_le _, by omega, rfl, rfl, Lib.hid (fun j a hj => absurd hj (Nat.not_lt_zero j)), HD, HP⟩
      case round =>
        clear HD HP hn
        obtain ⟨k, n, hk, hn, rfl, rfl, HA, HD, HP⟩ := hrel
        obtain ⟨wo, rfl⟩ : ∃ wo : World, wo = wr := ⟨_, rfl⟩
        have a3 := HP.out.cell 3
        simp at a3
        by_cases hlt : k < NA
        case pos =>
          have hlx := congrArg List.length HXa.out
          rw [List.length_map] at hlx
          obtain ⟨X, hX⟩ : ∃ X, xa[k]? = some X := ⟨_, List.getElem?_eq_getElem (by have := HNA.out; omega)⟩
          have hXl : p.acls[k]? = some X.a := by rw [← HXa.out, List.getElem?_map, hX]; rfl
          obtain ⟨q, o, rfl, hc⟩ := H4.out.cell HD.out (by omega)
          obtain ⟨e0, e1, e2, e3⟩ := acCells_at xa k X hX
          have d0 := hc _ _ e0
          have d1 := hc _ _ e1
          have d2 := hc _ _ e2
          have d3 := hc _ _ e3
          rw [← Nat.add_assoc] at d1 d2 d3
          have rX := I4.out X (List.mem_of_getElem? hX)
          have hXf := HFit.out.a X.a (List.mem_of_getElem? hXl)
          obtain ⟨A1, c1, g1⟩ := rX.p.shape
          obtain ⟨A2, c2, g2⟩ := rX.s.shape
          obtain ⟨A3, c3, g3⟩ := rX.d.shape
          obtain ⟨A4, c4, g4⟩ := rX.o.shape
          have rs := rX.s
          have rd := rX.d
          rw [g1] at d0
          rw [g2] at d1 rs
          rw [g3] at d2 rd
          rw [g4] at d3
          have f1 := hXf.pl
          have f2 := hXf.sl
          have f3 := hXf.dl
          have f4 := hXf.ol
          obtain ⟨n1, hn1⟩ : ∃ n, n = X.a.protos.length := ⟨_, rfl⟩
          obtain ⟨n2, hn2⟩ : ∃ n, n = X.a.src.length := ⟨_, rfl⟩
          obtain ⟨n3, hn3⟩ : ∃ n, n = X.a.dst.length := ⟨_, rfl⟩
          obtain ⟨n4, hn4⟩ : ∃ n, n = X.a.ports.length := ⟨_, rfl⟩
          rw [← hn1] at d0 f1
          rw [← hn2] at d1 rs f2
          rw [← hn3] at d2 rd f3
          rw [← hn4] at d3 f4
          have HN2 := Lib.hid hn2
          have HN3 := Lib.hid hn3
          have RS := Lib.hid rs
          have RD := Lib.hid rd
          have HXl := Lib.hid hXl
          clear hlx hX hXl hc e0 e1 e2 e3 rX hXf g1 g2 g3 g4 hn1 hn2 hn3 hn4 rs rd
          generalize X.a = a at HN2 HN3 HXl RS RD
          go_upto_region 16 with fail
          have M1 := Lib.hid (Blk.new wo 61 #[.slice A1 n1 c1, .slice A2 n2 c2, .slice A3 n3 c3, .slice A4 n4 c4])
          have q1 := boxed wo (.cells #[.slice A1 n1 c1, .slice A2 n2 c2, .slice A3 n3 c3, .slice A4 n4 c4] 61)
          have HD1 := Lib.hid (after HD.out q1)
          have HP1 := Lib.hid (HP.out.below q1 HP.out.lt)
          generalize wo.alloc (.cells #[.slice A1 n1 c1, .slice A2 n2 c2, .slice A3 n3 c3, .slice A4 n4 c4] 61) = w5 at M1 HD1 HP1 q1 ⊢
          generalize wo.heap.size = M at M1 ⊢
          clear q1 HD HP d0 d1 d2 d3 a3
          have m0 := M1.out.cell 0
          have m1 := M1.out.cell 1
          have m2 := M1.out.cell 2
          have m3 := M1.out.cell 3
          simp at m0 m1 m2 m3
          go_wp2_with fail
          go_roundw
          case rel =>
            refine ⟨k + 1, n + n1 + n2 + n3 + n4, by omega, by omega, by go_num, by go_num, Lib.hid (fun j b hj hb => ?_), HD1, HP1⟩
            by_cases e : j = k
            · rw [e, HXl.out] at hb
              injection hb with hb
              rw [← hb, ← HN2.out]
              omega
            · have := HA.out j b (by omega) hb
              omega
          case measure => simp [intOf]; omega
        obtain rfl : NA = k := by omega
        go_wp2_with fail
        clear a3
        have HAll : RowKit.Hid (∀ a ∈ p.acls, a.src.length ≤ n) := Lib.hid (fun a ha => by
          obtain ⟨j, hj⟩ := List.mem_iff_getElem?.1 ha
          have := (List.getElem?_eq_some_iff.1 hj).1
          exact HA.out j a (by have := HNA.out; omega) hj)
        clear HA
        obtain ⟨n0, hn0⟩ : ∃ m, m = n := ⟨_, rfl⟩
        rw [← hn0] at HAll
        have hn0' : n0 ≤ n := by omega
        clear hn0
        go_loopw [5, 10] (fun v5 v10 wr => ∃ (k n : Nat), k ≤ NL ∧ n ≤ 480000000 + 4000000 * k ∧ n0 ≤ n ∧ v5 = .int .i64 (n : Int) ∧ v10 = .int .i64 (k : Int) ∧ RowKit.Hid (sumA (xs.map (·.x)) k ≤ n) ∧ RowKit.Hid (Below w.heap.size w wr) ∧ RowKit.Hid (Blk wr P 26 #[.slice Ag NG cg, .slice At NT ct, .slice Ah NH ch, .slice Aa NA ca])) (fun _ v10 _ => NL - (intOf v10).toNat)
        case atStart => exact ⟨0, n, Nat.zero_le _, by omega, hn0', rfl, rfl, Lib.hid (Nat.zero_le _), HD, HP⟩
        case round =>
          clear HD HP hn hn0'
          obtain ⟨k, n, hk, hn, hn0', rfl, rfl, HS, HD, HP⟩ := hrel
          obtain ⟨wo, rfl⟩ : ∃ wo : World, wo = wr := ⟨_, rfl⟩
          by_cases hlt : k < NL
          case pos =>
            have hil : k < xs.length := by have := HNL.out; omega
            have hXi : xs[k]? = some xs[k] := List.getElem?_eq_getElem hil
            have hXm := HPi.out _ (List.getElem_mem hil)
            generalize xs[k] = X at hXi hXm
            have hxi : (xs.map (·.x))[k]? = some X.x := by rw [List.getElem?_map, hXi]; rfl
            have hsum := sumA_succ hxi
            obtain ⟨q, o, rfl, hc⟩ := HPr.out.cell HD.out (by omega)
            obtain ⟨A1, n1, c1, A2, c2, A3, n3, c3, e1, e2, e3, b1, b3⟩ := pe_open3 hXm
            obtain ⟨_, _, _, f3, f4, _, _, f7⟩ := pe_at hXi
            have hal := hXm.al
            rw [e1] at f3
            rw [e2] at f4
            rw [e3] at f7
            have d3 := hc _ _ f3
            have d4 := hc _ _ f4
            have d7 := hc _ _ f7
            rw [← Nat.add_assoc] at d3 d4 d7
            generalize X.x.addrs.length = n2 at hsum hal d4
            have HSum := Lib.hid hsum
            clear hil hXi hXm hxi hsum hc e1 e2 e3 f3 f4 f7
            go_upto_region 20 with fail
            go_quiet (fail)
            go_wp2_with fail
            go_roundw
            case rel => exact ⟨k + 1, n + n1 + n2 + n3, by omega, by omega, by omega, by go_num, by go_num, Lib.hid (by rw [HSum.out]; have := HS.out; omega), Lib.hid (HD.out.drewN_ _), Lib.hid (HP.out.drewN _)⟩
            case measure => simp [intOf]; omega
          obtain rfl : NL = k := by omega
          have p0 := HP.out.cell 0
          have p1 := HP.out.cell 1
          have p2 := HP.out.cell 2
          have p3 := HP.out.cell 3
          simp at p0 p1 p2 p3
          by_cases h400 : 400 < n
          · have q1 : (400 : Int) < (n : Int) := by omega
            clear h400
            go_wp2_with fail
            go_ret
            exact ⟨⟨_, rfl, fun h => by cases h⟩, HD.out⟩
          have q1 : ¬ (400 : Int) < (n : Int) := by omega
          have HFin : RowKit.Hid ((∀ a ∈ p.acls, a.src.length ≤ 400) ∧ sumA (xs.map (·.x)) NL ≤ 400) := Lib.hid ⟨fun a ha => by have := HAll.out a ha; omega, by have := HS.out; omega⟩
          clear h400 HAll HS
          go_wp2_with (go_at_call 13; (with_reducible refine (HLong.out _ HD.out).mono ?_); rintro r w7 ⟨⟨b, rfl⟩, d7⟩)
          go_ret
          exact ⟨⟨_, rfl, fun _ => HFin.out⟩, after HD.out d7⟩
end Go.Proofs.YthglckoikjfjkaaGreatDoor

/- The frame of the rules laws: heads, flows, addresses, one node as they come in. -/
namespace Go.Proofs.YthglckoikjfjkaaGreatDoor
open Go.ChangeShapes Go.WideShapes Go.ChangeAt Go.RowKit Go.Deep

def flList (f : Fw) : List Value := f.cells.toList
theorem fl_len (f : Fw) : (flList f).length = 9 := rfl
def flCells (l : List Fw) : List Value := l.flatMap flList
def FwOk (f : Fw) : Prop := f.src.Ok ∧ f.dst.Ok
section
variable {H : Type} {enc : TypeId × Value → H} {w : World} {base : Nat} {sp : Nat → Bool} {held : Bool}
set_option maxRecDepth 100000 in
theorem el_fl : ∀ n cs y, DataW.trod enc Tryz.prog w base sp held n 43 cs = some y → ∃ f : Fw, cs = flList f ∧ FwOk f := by
  intro n cs y h
  obtain ⟨xs, n, _, rfl, hl, hlen, hf⟩ := DataW.trod_struct Tryz.underlying43 h
  rw [d35] at hl
  match cs, hl with
  | [v0, v1, v2, v3, v4, v5, v6, v7, v8], _ =>
    have h0 := hf 0 _ rfl
    have h1 := hf 1 _ rfl
    have h2 := hf 2 _ rfl
    have h3 := hf 3 _ rfl
    have h4 := hf 4 _ rfl
    rw [List.getElem?_eq_getElem (show 0 < xs.length by rw [hlen]; decide)] at h0
    rw [List.getElem?_eq_getElem (show 1 < xs.length by rw [hlen]; decide)] at h1
    rw [List.getElem?_eq_getElem (show 2 < xs.length by rw [hlen]; decide)] at h2
    rw [List.getElem?_eq_getElem (show 3 < xs.length by rw [hlen]; decide)] at h3
    rw [List.getElem?_eq_getElem (show 4 < xs.length by rw [hlen]; decide)] at h4
    obtain ⟨n0, e0, _⟩ := el_u8 _ _ _ h0
    obtain ⟨a1, o1, e1⟩ := el_ad h1
    obtain ⟨a2, o2, e2⟩ := el_ad h2
    obtain ⟨n3, e3, _⟩ := el_u16 _ _ _ h3
    obtain ⟨n4, e4, _⟩ := el_u16 _ _ _ h4
    simp [d5, d6, d11, Ad.cells] at e0 e1 e2 e3 e4
    obtain ⟨rfl, rfl, rfl⟩ := e1
    obtain ⟨rfl, rfl, rfl⟩ := e2
    subst e0 e3 e4
    exact ⟨⟨n0, a1, a2, n3, n4⟩, rfl, o1, o2⟩
set_option maxRecDepth 100000 in
theorem open_addrs {b0 : Nat} {v : Value} {d : DataW H} {p : List MemPlace} (hv : Value.okWide Tryz.prog w .any b0 28 v) (h : DataW.Trod enc Tryz.prog w base sp held 28 v d p) (hk : Rows.uptoBulk d ≤ 1048576) :
    ∃ l : List Ad, RowR w v l.length 3 (adCells l) ∧ (∀ a ∈ l, a.Ok) ∧ l.length ≤ 1048576 := by
  obtain ⟨fuel, hfu⟩ := h
  obtain ⟨l, u, e, r, q, b, c⟩ := open_row Tryz.underlying28 3 (by decide) d11 (fun a : Ad => a.cells.toList) (fun _ => rfl) (fun _ a => a.Ok) el_addr hfu
  obtain ⟨a, n, cc, rfl⟩ := okWide_slice Tryz.underlying28 hv
  simp [Value.cells] at e
  subst e
  simp only at b
  exact ⟨l, r, fun X hX => by obtain ⟨D, h5, h6⟩ := q X hX; exact h5, by omega⟩
set_option maxRecDepth 100000 in
theorem open_flows {b0 : Nat} {v : Value} {d : DataW H} {p : List MemPlace} (hv : Value.okWide Tryz.prog w .any b0 29 v) (h : DataW.Trod enc Tryz.prog w base sp held 29 v d p) (hk : Rows.uptoBulk d ≤ 1048576) :
    ∃ l : List Fw, RowR w v l.length 9 (flCells l) ∧ (∀ f ∈ l, FwOk f) ∧ l.length ≤ 1048576 := by
  obtain ⟨fuel, hfu⟩ := h
  obtain ⟨l, u, e, r, q, b, c⟩ := open_row Tryz.underlying29 9 (by decide) d35 flList fl_len (fun _ f => FwOk f) el_fl hfu
  obtain ⟨a, n, cc, rfl⟩ := okWide_slice Tryz.underlying29 hv
  simp [Value.cells] at e
  subst e
  simp only at b
  exact ⟨l, r, fun X hX => by obtain ⟨D, h5, h6⟩ := q X hX; exact h5, by omega⟩
end
end Go.Proofs.YthglckoikjfjkaaGreatDoor

/- It makes no difference in what order nodes stand (RulesOrder): the walk. (printed by order.py) -/
namespace Go.Proofs.YthglckoikjfjkaaGreatDoor
open Go.RowKit
attribute [local go_sem ↓] Go.wp_at_zero Go.wp_at_succ

theorem info_pe : (Tryz.prog.info? 53).map (fun i => (i.zero, i.size, i.bytes)) = some (some (.agg #[.string ⟨#[]⟩, .string ⟨#[]⟩, .string ⟨#[]⟩, .slice none 0 0, .slice none 0 0, .int .u64 0, .int .u8 0, .slice none 0 0]), 8, 136) := by kernel_rfl
theorem peCells_snoc (l : List PeV) (X : PeV) : peCells (l ++ [X]) = peCells l ++ X.cells.toList := by simp [peCells]
theorem pe_open4 {w : World} {X : PeV} (h : PeIn w X) : ∃ (key disco us : ByteArray) (A1 : Option Addr) (n1 c1 : Nat) (A2 : Option Addr) (c2 ex relay : Nat) (A3 : Option Addr) (n3 c3 : Nat), X.cells = #[.string key, .string disco, .string us, .slice A1 n1 c1, .slice A2 X.x.addrs.length c2, .int .u64 (ex : Int), .int .u8 (relay : Int), .slice A3 n3 c3] ∧ X.ad = .slice A2 X.x.addrs.length c2 ∧ n1 ≤ 1048576 := by
  obtain ⟨A1, n1, c1, A2, c2, A3, n3, c3, e1, e2, e3, b1, _⟩ := pe_open3 h
  exact ⟨X.key, X.disco, X.x.user, A1, n1, c1, A2, c2, X.exp, X.relay, A3, n3, c3, by unfold PeV.cells; rw [e1, e2, e3], e2, b1⟩
end Go.Proofs.YthglckoikjfjkaaGreatDoor
