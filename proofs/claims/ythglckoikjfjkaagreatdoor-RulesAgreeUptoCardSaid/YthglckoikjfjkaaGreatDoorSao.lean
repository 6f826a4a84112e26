/- Joined out of: RxK CnB RxL RxM RxN PwP. -/
import Derived.Test.YthglckoikjfjkaaGreatDoorSan
import Derived.Test.YthglckoikjfjkaaGreatDoorSal
import Derived.Test.YthglckoikjfjkaaGreatDoorSai
import Derived.Deep.QuietTactic
import Derived.BigQuiet
set_option linter.unusedVariables false
set_option linter.unusedSimpArgs false

/- Rules: whom a selector means (picks): the walk. -/
namespace Go.Proofs.YthglckoikjfjkaaGreatDoor
open Go.RowKit
attribute [local go_sem ↓] Go.wp_at_zero Go.wp_at_succ

theorem picksAt4 {w : World} {V : PoV} {p : Po} {s : Sel} {gp gi : Nat} {xs : List (Nm × Value)} (hs : s.kind = 3) (hp : Blk w gp 26 V.cells) {A : Option Addr} {cap : Nat} (hV : V.g = .slice A xs.length cap) (hr : RowR w V.g xs.length 2 (nmCells (xs.map nmPair)))
    (hxs : ∀ x ∈ xs, RowR w x.2 x.1.list.length 1 (strCells x.1.list)) (hll : ∀ x ∈ xs, x.1.list.length ≤ 4000000) (hxl : xs.length ≤ 4000000) (k : Nat) {x : Nm × Value} (hk : xs[k]? = some x) (hi : w.cell? ⟨gi, 0, none⟩ = some (.int .i64 (k : Int))) (hf : findG p s.name = some x.1) :
    PicksAt w p s (.func (.func 80) #[] #[.pointer (some ⟨gp, 0, none⟩), .pointer (some ⟨gi, 0, none⟩)]) :=
  ⟨_, _, rfl, enters_of Tryz.func80 (by kernel_rfl) rfl, fun W hW X hX => by
    have := picks4_any gp gi (hp.below hW hp.lt) hV (hr.below hW) (fun y hy => (hxs y hy).below hW) hll hxl k hk (cellB hi hW) hX
    rw [show picksP p s X.x = x.1.list.any fun t => decide (t = X.x.user) by unfold picksP; rw [if_neg (by omega), if_neg (by omega), if_pos hs, hf]]
    exact this⟩
/-- A test of nodes in memory: what it captured lies at W, the policy's rows at w0. -/
inductive PicksMem (w0 W : World) (p : Po) (s : Sel) : Value → Prop
  | user (g : Nat) : Blk W g 66 s.cells → s.kind = 2 → PicksMem w0 W p s (.func (.func 75) #[] #[.pointer (some ⟨g, 0, none⟩)])
  | tag (g : Nat) : Blk W g 66 s.cells → s.kind = 4 → PicksMem w0 W p s (.func (.func 76) #[] #[.pointer (some ⟨g, 0, none⟩)])
  | group (V : PoV) (gp gi : Nat) (xs : List (Nm × Value)) (A : Option Addr) (cap k : Nat) (x : Nm × Value) : s.kind = 3 → Blk W gp 26 V.cells → V.g = .slice A xs.length cap → RowR w0 V.g xs.length 2 (nmCells (xs.map nmPair)) →
      (∀ x ∈ xs, RowR w0 x.2 x.1.list.length 1 (strCells x.1.list)) → (∀ x ∈ xs, x.1.list.length ≤ 4000000) → xs.length ≤ 4000000 → xs[k]? = some x → Blk W gi 3 #[.int .i64 (k : Int)] → findG p s.name = some x.1 →
      PicksMem w0 W p s (.func (.func 80) #[] #[.pointer (some ⟨gp, 0, none⟩), .pointer (some ⟨gi, 0, none⟩)])
  | none : (∀ x, picksP p s x = false) → PicksMem w0 W p s (.func (.func 81) #[] #[])
theorem PicksMem.at_ {w0 W : World} {p : Po} {s : Sel} {v : Value} (h : PicksMem w0 W p s v) (hb : Below w0.heap.size w0 W) : PicksAt W p s v := by
  cases h with
  | user g h1 h2 => exact picksAt1 h1 h2
  | tag g h1 h2 => exact picksAt2 h1 h2
  | group V gp gi xs A cap k x h1 h2 h3 h4 h5 h6 h7 h8 h9 h10 => exact picksAt4 h1 h2 h3 (h4.below hb) (fun y hy => (h5 y hy).below hb) h6 h7 k h8 (h9.cell 0) h10
  | none h1 => exact picksAt5 h1
theorem PicksMem.keep {w0 W W' : World} {p : Po} {s : Sel} {v : Value} {S : Nat → Prop} (h : PicksMem w0 W p s v) (hk : Keeps S W W') (hS : ∀ g t cs, Blk W g t cs → t = 66 ∨ t = 26 ∨ t = 3 → ¬ S g) : PicksMem w0 W' p s v := by
  cases h with
  | user g h1 h2 => exact .user g (h1.keep hk (hS _ _ _ h1 (.inl rfl))) h2
  | tag g h1 h2 => exact .tag g (h1.keep hk (hS _ _ _ h1 (.inl rfl))) h2
  | group V gp gi xs A cap k x h1 h2 h3 h4 h5 h6 h7 h8 h9 h10 => exact .group V gp gi xs A cap k x h1 (h2.keep hk (hS _ _ _ h2 (.inr (.inl rfl)))) h3 h4 h5 h6 h7 h8 (h9.keep hk (hS _ _ _ h9 (.inr (.inr rfl)))) h10
  | none h1 => exact .none h1
theorem PicksMem.below {w0 W W' : World} {p : Po} {s : Sel} {v : Value} (h : PicksMem w0 W p s v) (hb : Below W.heap.size W W') : PicksMem w0 W' p s v :=
  h.keep (S := fun k => W.heap.size ≤ k) (Keeps.of_below hb fun k hk _ => hk) (fun g t cs hg _ => by have := hg.lt; omega)
theorem findG_of {p : Po} {xs : List (Nm × Value)} {nm : ByteArray} {r : Option (Nm × Value)} (hxs : xs.map (·.1) = p.groups) (hf : xs.find? (fun h => decide (h.1.name = nm)) = r) : findG p nm = r.map (·.1) := by
  unfold findG
  rw [← hxs, List.find?_map, ← hf]
  rfl

set_option maxHeartbeats 4000000 in
set_option maxRecDepth 100000 in
theorem picks_any {w0 w : World} {V : PoV} {p : Po} (h0 : PoRd w0 V p) (hb0 : Below w0.heap.size w0 w) (hg : p.groups.length ≤ 4000000) (hgl : ∀ n ∈ p.groups, n.list.length ≤ 4000000) (s : Sel) :
    Calls Tryz.prog 39 #[.agg #[V.g, V.t, V.h, V.a], .agg s.cells] w fun r w' => (∃ v, r = .returned v ∧ PicksMem w0 w' p s v) ∧ Below w.heap.size w w' := by
  have h := h0.below hb0
  obtain ⟨xs, hxs, hrr0, hxr⟩ := h0.g
  have hrr := hrr0.below hb0
  obtain ⟨Ag, At, Ah, Aa, cg, ct, ch, ca, rfl⟩ := copied h
  have hlen : p.groups.length = xs.length := by rw [← hxs]; simp
  have hll : ∀ x ∈ xs, x.1.list.length ≤ 4000000 := fun x hx => hgl x.1 (by rw [← hxs]; exact List.mem_map_of_mem hx)
  have hfg := fun r => findG_of (r := r) (nm := s.name) hxs
  simp only at hrr hrr0 ⊢
  rw [hlen] at hrr hrr0 hg ⊢
  have hv : ∀ x ∈ xs, ∃ B n c, x.2 = .slice B n c := fun x hx => by
    obtain ⟨B, c, e⟩ := (hxr x hx).shape
    exact ⟨B, _, c, e⟩
  have hix := fun u (hu : Below w.heap.size w u) g (hb : Blk u g 66 s.cells) => ixGroup (w := u) (cap := cg) hg (hrr.below hu) hv g s hb
  obtain ⟨s', hs'⟩ : ∃ s', s' = s := ⟨_, rfl⟩
  rw [← hs'] at hfg hix ⊢
  obtain ⟨kd, nm, ⟨⟨v6, hi, lo⟩, bits⟩⟩ := s
  have hk : s'.kind = kd := by rw [hs']
  have hcs : s'.cells = #[.int .u8 (kd : Int), .string nm, .bool v6, .int .u64 (hi : Int), .int .u64 (lo : Int), .int .u8 (bits : Int)] := by rw [hs']; rfl
  rw [hcs] at hix ⊢
  generalize p.tags.length = NT
  generalize p.hosts.length = NH
  generalize p.acls.length = NA
  generalize hN : xs.length = N at *
  have HI := Lib.hid hix
  have HCS := Lib.hid hcs
  have HK := Lib.hid hk
  have HXS := Lib.hid hxs
  have HRR := Lib.hid hrr0
  have HXR := Lib.hid hxr
  have HLL := Lib.hid hll
  have HFG := Lib.hid hfg
  have HN := Lib.hid hN
  clear hb0 h0 hix hcs hk hxs hrr hrr0 hxr hll hfg hN hs' h hlen hgl hv
  have HB := Lib.hid (two_boxed w (.cells #[.slice Ag N cg, .slice At NT ct, .slice Ah NH ch, .slice Aa NA ca] 26) (.cells #[.int .u8 (kd : Int), .string nm, .bool v6, .int .u64 (hi : Int), .int .u64 (lo : Int), .int .u8 (bits : Int)] 66))
  have hp := Blk.new w 26 #[.slice Ag N cg, .slice At NT ct, .slice Ah NH ch, .slice Aa NA ca]
  have HP := Lib.hid (hp.below (boxed _ (.cells #[.int .u8 (kd : Int), .string nm, .bool v6, .int .u64 (hi : Int), .int .u64 (lo : Int), .int .u8 (bits : Int)] 66)) hp.lt)
  have HS := Lib.hid (new2 w (.cells #[.slice Ag N cg, .slice At NT ct, .slice Ah NH ch, .slice Aa NA ca] 26) 66 #[.int .u8 (kd : Int), .string nm, .bool v6, .int .u64 (hi : Int), .int .u64 (lo : Int), .int .u8 (bits : Int)])
  clear hp
  go_enter Tryz.func39, Tryz.ntmps39
  go_upto_region 1 with fail
  generalize (w.alloc (.cells #[.slice Ag N cg, .slice At NT ct, .slice Ah NH ch, .slice Aa NA ca] 26)).alloc (.cells #[.int .u8 (kd : Int), .string nm, .bool v6, .int .u64 (hi : Int), .int .u64 (lo : Int), .int .u8 (bits : Int)] 66) = w1 at HB HP HS ⊢
  generalize w.heap.size + 1 = G at HS ⊢
  generalize hP : w.heap.size = P at HP ⊢
  have HPe := Lib.hid hP
  clear hP
  have s0 := HS.out.cell 0
  have p0 := HP.out.cell 0
  simp at s0 p0
  have HS' : RowKit.Hid (Blk w1 G 66 s'.cells) := Lib.hid (by rw [HCS.out]; exact HS.out)
  clear HS
  by_cases k2 : kd = 2
  · have e2 : ((kd : Int) == 2) = true := by simp; omega
    have Hk := Lib.hid (HK.out.trans k2)
    clear k2
    go_wp2_with fail
    go_ret
    exact ⟨⟨_, rfl, PicksMem.user _ HS'.out Hk.out⟩, HPe.out ▸ HB.out⟩
  have e2 : ((kd : Int) == 2) = false := by simp; omega
  by_cases k4 : kd = 4
  · have e4 : ((kd : Int) == 4) = true := by simp; omega
    have Hk := Lib.hid (HK.out.trans k4)
    clear k4 k2
    go_wp2_with fail
    go_ret
    exact ⟨⟨_, rfl, PicksMem.tag _ HS'.out Hk.out⟩, HPe.out ▸ HB.out⟩
  have e4 : ((kd : Int) == 4) = false := by simp; omega
  by_cases k3 : kd = 3
  · have e3 : ((kd : Int) == 3) = true := by simp; omega
    have Hk := Lib.hid (HK.out.trans k3)
    clear k2 k3 k4
    go_upto_region 8 with (go_at_call 78; (with_reducible refine (HI.out _ (HPe.out ▸ HB.out) _ (HCS.out ▸ HS'.out)).mono ?_); rintro r w4 ⟨⟨z, rfl, hz⟩, d4⟩)
    have hb4 := boxed w4 (.cells #[.int .i64 z] 3)
    have HI4 := Lib.hid (Blk.new w4 3 #[.int .i64 z])
    have HB4 := Lib.hid (after HB.out (after d4 hb4))
    have HP4 := Lib.hid (HP.out.below (after d4 hb4) HP.out.lt)
    clear s0 p0 hb4 d4 HP HS'
    generalize w4.alloc (.cells #[.int .i64 z] 3) = w5 at HI4 HB4 HP4 ⊢
    generalize w4.heap.size = I at HI4 ⊢
    have hi4 := HI4.out.cell 0
    simp at hi4
    rcases hz with ⟨k, x, rfl, hx, hf⟩ | ⟨rfl, hf⟩
    · have HF := Lib.hid (HFG.out _ hf)
      have HX := Lib.hid hx
      clear hx hf
      go_wp2_with fail
      go_ret
      refine ⟨⟨_, rfl, PicksMem.group ⟨.slice Ag N cg, .slice At NT ct, .slice Ah NH ch, .slice Aa NA ca⟩ _ _ xs Ag cg k x Hk.out HP4.out ?_ ?_ HXR.out HLL.out ?_ HX.out HI4.out HF.out⟩, HPe.out ▸ HB4.out⟩
      · rw [HN.out]
      · rw [HN.out]
        exact HRR.out
      · rw [HN.out]
        exact hg
    · have HF := Lib.hid (HFG.out _ hf)
      clear hf
      go_wp2_with fail
      go_ret
      refine ⟨⟨_, rfl, PicksMem.none fun x => ?_⟩, HPe.out ▸ HB4.out⟩
      unfold picksP
      rw [if_neg (by rw [Hk.out]; decide), if_neg (by rw [Hk.out]; decide), if_pos Hk.out, HF.out]
      rfl
  have e3 : ((kd : Int) == 3) = false := by simp; omega
  have Hk2 : RowKit.Hid (s'.kind ≠ 2 ∧ s'.kind ≠ 4 ∧ s'.kind ≠ 3) := Lib.hid (by rw [HK.out]; exact ⟨k2, k4, k3⟩)
  clear k2 k3 k4
  go_wp2_with fail
  go_ret
  refine ⟨⟨_, rfl, PicksMem.none fun x => ?_⟩, HPe.out ▸ HB.out⟩
  unfold picksP
  rw [if_neg Hk2.out.1, if_neg Hk2.out.2.1, if_neg Hk2.out.2.2]
end Go.Proofs.YthglckoikjfjkaaGreatDoor

/- slices.Index, slices.Contains of rows of addresses: the walks; rows of structs, element by element. -/
namespace Go.Proofs.YthglckoikjfjkaaGreatDoor
open Go.RowKit
attribute [local go_sem ↓] Go.wp_at_zero Go.wp_at_succ

theorem _root_.Go.RowKit.Below.drewN_ {n : Nat} {w u : World} (h : Below n w u) (k : Nat) : Below n w (u.drewN k) := ⟨h.os, h.tape, h.output, h.size, h.block⟩
theorem flat_drop {α : Type} (cells : α → List Value) (size : Nat) (hc : ∀ x, (cells x).length = size) : ∀ (l : List α) (k : Nat) (x : α), l[k]? = some x → ((l.flatMap cells).drop (k * size)).take size = cells x := by
  intro l
  induction l with
  | nil => intro k x h; cases h
  | cons y r ih =>
    intro k x h
    cases k with
    | zero =>
      injection h with h
      subst h
      rw [Nat.zero_mul, List.drop_zero, List.flatMap_cons, List.take_append_of_le_length (by rw [hc]; exact Nat.le_refl _), List.take_of_length_le (by rw [hc]; exact Nat.le_refl _)]
    | succ k =>
      rw [Nat.succ_mul, Nat.add_comm, ← List.drop_drop, List.flatMap_cons]
      conv => lhs; arg 2; arg 2; rw [List.drop_append_of_le_length (by rw [hc]; exact Nat.le_refl _), List.drop_of_length_le (by rw [hc]; exact Nat.le_refl _), List.nil_append]
      exact ih k x h
theorem flat_at {α : Type} (cells : α → List Value) (size : Nat) (hc : ∀ x, (cells x).length = size) {l : List α} {k : Nat} {x : α} (h : l[k]? = some x) {r : Nat} {u : Value} (hu : (cells x)[r]? = some u) : (l.flatMap cells)[k * size + r]? = some u := by
  have hr : r < size := by rw [← hc x]; exact (List.getElem?_eq_some_iff.1 hu).1
  rw [← flat_drop cells size hc l k x h, List.getElem?_take, if_pos hr, List.getElem?_drop] at hu
  exact hu
theorem any_range {α : Type} (l : List α) (q : α → Bool) : ((List.range l.length).any fun k => match l[k]? with | some x => q x | none => false) = l.any q := by
  rw [Bool.eq_iff_iff, List.any_eq_true, List.any_eq_true]
  constructor
  · rintro ⟨k, _, h⟩
    cases hx : l[k]? with
    | none => simp [hx] at h
    | some x => simp only [hx] at h; exact ⟨x, List.mem_of_getElem? hx, h⟩
  · rintro ⟨x, hx, h⟩
    obtain ⟨k, hk⟩ := List.getElem?_of_mem hx
    exact ⟨k, List.mem_range.2 (List.getElem?_eq_some_iff.1 hk).1, by simp only [hk]; exact h⟩
theorem eqAd_in (u v p q : Nat) (r s : Bool) (d : Nat) (w : World) : (Op.equalIn (d + 3) 40 (.agg #[.bool r, .int .u64 (u : Int), .int .u64 (v : Int)]) (.agg #[.bool s, .int .u64 (p : Int), .int .u64 (q : Int)])).run Tryz.prog w = .ok (r == s && (u == p && v == q)) w := by
  have h32 : Tryz.prog.stoodInHeld 40 = false := by kernel_rfl
  rw [run_equalIn_struct w (d + 2) 40 _ _ (by kernel_rfl) h32]
  simp [go_sem, Tryz.underlying40, Tryz.underlying4, Tryz.underlying38, part, Op.equalIn]
  by_cases h1 : r = s
  · by_cases h2 : u = p
    · by_cases h3 : v = q
      · subst h1 h2 h3; simp
      · have h4 : ¬ (v : Int) = (q : Int) := by omega
        subst h1 h2; simp [h3, h4]
    · have h4 : ¬ (u : Int) = (p : Int) := by omega
      subst h1; simp [h2, h4]
  · simp [h1]
theorem eqAd (x y : Ad) (w : World) : (binOp .eql 40 (.agg #[.bool x.v6, .int .u64 (x.hi : Int), .int .u64 (x.lo : Int)]) (.agg #[.bool y.v6, .int .u64 (y.hi : Int), .int .u64 (y.lo : Int)])).run Tryz.prog w = .ok (.bool (decide (y = x))) w := by
  have e : (x.v6 == y.v6 && (x.hi == y.hi && x.lo == y.lo)) = decide (y = x) := by
    obtain ⟨a, b, c⟩ := x
    obtain ⟨d, e, f⟩ := y
    rw [Bool.eq_iff_iff]
    simp only [Bool.and_eq_true, beq_iff_eq, decide_eq_true_eq, Ad.mk.injEq]
    constructor
    · rintro ⟨rfl, rfl, rfl⟩; exact ⟨rfl, rfl, rfl⟩
    · rintro ⟨rfl, rfl, rfl⟩; exact ⟨rfl, rfl, rfl⟩
  simp only [binOp]
  simp [Op.equal, Op.maxDepth, eqAd_in x.hi x.lo y.hi y.lo x.v6 y.v6 9997, e]
theorem ad_len (a : Ad) : a.cells.toList.length = 3 := rfl
theorem adCells_at {l : List Ad} {k : Nat} {x : Ad} (h : l[k]? = some x) : (adCells l)[k * 3]? = some (.bool x.v6) ∧ (adCells l)[k * 3 + 1]? = some (.int .u64 (x.hi : Int)) ∧ (adCells l)[k * 3 + 2]? = some (.int .u64 (x.lo : Int)) :=
  ⟨flat_at _ 3 ad_len h (r := 0) rfl, flat_at _ 3 ad_len h (r := 1) rfl, flat_at _ 3 ad_len h (r := 2) rfl⟩

set_option maxHeartbeats 4000000 in
set_option maxRecDepth 100000 in
theorem ixqA_any {w : World} (l : List Ad) {v : Value} (hl : l.length ≤ 4000000) (hr : RowR w v l.length 3 (adCells l)) (x : Ad) :
    Calls Tryz.prog 103 #[v, .agg x.cells] w fun r w' => (∃ z : Int, r = .returned (.int .i64 z) ∧ decide (0 ≤ z) = l.any fun y => decide (y = x)) ∧ Below w.heap.size w w' := by
  obtain ⟨A, cap, rfl, hlen, hA⟩ := hr
  obtain ⟨N, hN⟩ : ∃ n, n = l.length := ⟨_, rfl⟩
  obtain ⟨R, hR⟩ : ∃ r, r = l.any fun y => decide (y = x) := ⟨_, rfl⟩
  rw [← hN] at hA hl ⊢
  rw [← hR]
  obtain ⟨v6, hi, lo⟩ := x
  have HA := Lib.hid hA
  have HN := Lib.hid hN
  have HR := Lib.hid hR
  clear hA hN hlen hR
  unfold Ad.cells
  simp only
  have HP := Lib.hid (Blk.new w 40 #[.bool v6, .int .u64 (hi : Int), .int .u64 (lo : Int)])
  have HB := Lib.hid (boxed w (.cells #[.bool v6, .int .u64 (hi : Int), .int .u64 (lo : Int)] 40))
  go_enter Tryz.func103, Tryz.ntmps103
  go_upto_region 1 with fail
  generalize w.alloc (.cells #[.bool v6, .int .u64 (hi : Int), .int .u64 (lo : Int)] 40) = w1 at HP HB ⊢
  generalize hP : w.heap.size = P at HP ⊢
  have HPe := Lib.hid hP
  clear hP
  go_wp2_with fail
  go_loopw [8] (fun v8 wr => ∃ k : Nat, k ≤ N ∧ v8 = .int .i64 (k : Int) ∧ RowKit.Hid (Below w1.heap.size w1 wr) ∧ RowKit.Hid (((l.take k).any fun y => decide (y = (⟨v6, hi, lo⟩ : Ad))) = false)) (fun v8 _ => N - (intOf v8).toNat)
  case atStart => exact ⟨0, Nat.zero_le _, rfl, Lib.hid (Below.refl _ _), Lib.hid rfl⟩
  case round =>
    obtain ⟨k, hk, rfl, hb, hno⟩ := hrel
    have HW := Lib.hid (after HB.out hb.out)
    by_cases hlt : k < N
    · have hkl : k < l.length := by have := HN.out; omega
      obtain ⟨q, o, rfl, hc⟩ := HA.out (by omega)
      have htk := List.take_succ_eq_append_getElem hkl
      obtain ⟨c0, c1, c2⟩ := adCells_at (List.getElem?_eq_getElem hkl)
      generalize l[k] = X at htk c0 c1 c2
      have d0 := cellB (hc _ _ c0) HW.out
      have d1 := cellB (hc _ _ c1) HW.out
      have d2 := cellB (hc _ _ c2) HW.out
      rw [← Nat.add_assoc] at d1 d2
      have x0 := cellB (HP.out.cell 0) hb.out
      have x1 := cellB (HP.out.cell 1) hb.out
      have x2 := cellB (HP.out.cell 2) hb.out
      simp at x0 x1 x2
      obtain ⟨yv, yh, yl⟩ := X
      simp only at d0 d1 d2
      clear c0 c1 c2 hc
      by_cases hX : (⟨yv, yh, yl⟩ : Ad) = ⟨v6, hi, lo⟩
      · have hres : R = true := by
          rw [HR.out]
          have : (l.take (k + 1)).any (fun y => decide (y = (⟨v6, hi, lo⟩ : Ad))) = true := by rw [htk, List.any_append]; simp [hX]
          obtain ⟨y, hy, hys⟩ := List.any_eq_true.1 this
          exact List.any_eq_true.2 ⟨y, List.mem_of_mem_take hy, hys⟩
        have Hres := Lib.hid hres
        have hq := fun W => eqAd ⟨v6, hi, lo⟩ ⟨yv, yh, yl⟩ W
        rw [decide_eq_true hX] at hq
        simp only at hq
        clear hres htk hX
        go_upto_region 4 with fail
        go_quiet (fail)
        go_wp2_with fail
        go_ret
        exact ⟨⟨_, rfl, by rw [Hres.out]; exact decide_eq_true (by omega)⟩, HW.out.drewN_ _⟩
      · have Hno2 : RowKit.Hid (((l.take (k + 1)).any fun y => decide (y = (⟨v6, hi, lo⟩ : Ad))) = false) := Lib.hid (by rw [htk, List.any_append, hno.out]; simp [hX])
        have hq := fun W => eqAd ⟨v6, hi, lo⟩ ⟨yv, yh, yl⟩ W
        rw [decide_eq_false hX] at hq
        simp only at hq
        clear htk hX
        go_upto_region 4 with fail
        go_quiet (fail)
        go_wp2_with fail
        go_roundw
        case rel => exact ⟨k + 1, by omega, by go_num, Lib.hid (hb.out.drewN_ _), Hno2⟩
        case measure => simp [intOf]; omega
    · obtain rfl : k = N := by omega
      have hres : R = false := by
        have := hno.out
        rw [List.take_of_length_le (by have := HN.out; omega)] at this
        rw [HR.out]
        exact this
      have Hres := Lib.hid hres
      clear hres
      go_wp2_with fail
      go_ret
      exact ⟨⟨_, rfl, by rw [Hres.out]; rfl⟩, HW.out⟩
set_option maxHeartbeats 4000000 in
set_option maxRecDepth 100000 in
theorem cnA_any {w : World} (l : List Ad) {v : Value} (hl : l.length ≤ 4000000) (hr : RowR w v l.length 3 (adCells l)) (x : Ad) :
    Calls Tryz.prog 71 #[v, .agg x.cells] w (Got (.bool (l.any fun y => decide (y = x))) w) := by
  have HI := Lib.hid (fun u (hu : Below w.heap.size w u) => ixqA_any l hl (hr.below hu) x)
  obtain ⟨A, cap, rfl, _, _⟩ := hr
  generalize (l.any fun y => decide (y = x)) = R at HI ⊢
  generalize l.length = N at HI ⊢
  obtain ⟨v6, hi, lo⟩ := x
  unfold Ad.cells at HI ⊢
  simp only at HI ⊢
  have HP := Lib.hid (Blk.new w 40 #[.bool v6, .int .u64 (hi : Int), .int .u64 (lo : Int)])
  have HB := Lib.hid (boxed w (.cells #[.bool v6, .int .u64 (hi : Int), .int .u64 (lo : Int)] 40))
  go_enter Tryz.func71, Tryz.ntmps71
  go_upto_region 1 with fail
  generalize w.alloc (.cells #[.bool v6, .int .u64 (hi : Int), .int .u64 (lo : Int)] 40) = w1 at HP HB ⊢
  generalize w.heap.size = P at HP ⊢
  have x0 := HP.out.cell 0
  have x1 := HP.out.cell 1
  have x2 := HP.out.cell 2
  simp at x0 x1 x2
  go_wp2_with (go_at_call 103; (with_reducible refine (HI.out _ HB.out).mono ?_); rintro r w2 ⟨⟨z, rfl, hz⟩, e2⟩)
  go_ret
  exact ⟨by rw [← hz]; rfl, after HB.out e2⟩
end Go.Proofs.YthglckoikjfjkaaGreatDoor

/- Rules: has a selector an address? (Has): the walks. -/
namespace Go.Proofs.YthglckoikjfjkaaGreatDoor
open Go.RowKit
attribute [local go_sem ↓] Go.wp_at_zero Go.wp_at_succ

/- Nodes in memory. -/
theorem pe_len (X : PeV) : X.cells.toList.length = 8 := rfl
def peCells (l : List PeV) : List Value := l.flatMap fun X => X.cells.toList
def PeRd (w : World) (v : Value) (l : List Pe) : Prop := ∃ xs : List PeV, xs.map (·.x) = l ∧ RowR w v xs.length 8 (peCells xs) ∧ ∀ X ∈ xs, PeMem w X
theorem PeRd.below {w w' : World} {v : Value} {l : List Pe} (h : PeRd w v l) (hb : Below w.heap.size w w') : PeRd w' v l := by
  obtain ⟨xs, h1, h2, h3⟩ := h
  exact ⟨xs, h1, h2.below hb, fun X hX => (h3 X hX).below hb⟩
theorem PeRd.shape {w : World} {v : Value} {l : List Pe} (h : PeRd w v l) : ∃ A cap, v = .slice A l.length cap := by
  obtain ⟨xs, h1, h2, _⟩ := h
  have := h2.shape
  rw [← h1, List.length_map]
  exact this
theorem coPe_of {w : World} {v : Value} {l : List Pe} (h : PeRd w v l) (hl : l.length ≤ 4000000) (q : Pe → Bool) (f : Nat) (lb : Array Value) (eg : ∀ args w, (callFunc f args).run Tryz.prog w = .ok (.enter f args) w)
    (hf : ∀ W, Below w.heap.size w W → ∀ X, PeMem W X → Calls Tryz.prog f (#[.agg X.cells] ++ lb) W (Got (.bool (q X.x)) W)) :
    Calls Tryz.prog 69 #[v, .func (.func f) #[] lb] w (Got (.bool (l.any q)) w) := by
  obtain ⟨xs, rfl, hr, hx⟩ := h
  rw [List.length_map] at hl
  rw [List.any_map, ← any_range]
  obtain ⟨A, cap, rfl⟩ := hr.shape
  refine coPe_any hl _ _ hr.cellsAt f lb eg fun k hk W hW => ?_
  have hxk : xs[k]? = some xs[k] := List.getElem?_eq_getElem hk
  unfold peCells
  simp only [hxk]
  rw [flat_drop _ 8 pe_len xs k _ hxk]
  exact hf W hW _ ((hx _ (List.getElem_mem hk)).below hW)

set_option maxHeartbeats 4000000 in
set_option maxRecDepth 100000 in
theorem rhas1_any {w : World} {p : Po} {s : Sel} (gm ga : Nat) {mv : Value} (hm : w.cell? ⟨gm, 0, none⟩ = some mv) (hpk : PicksAt w p s mv) (a : Ad) (ha : Blk w ga 40 a.cells) {X : PeV} (hX : PeMem w X) :
    Calls Tryz.prog 70 #[.agg X.cells, .pointer (some ⟨gm, 0, none⟩), .pointer (some ⟨ga, 0, none⟩)] w (Got (.bool (picksP p s X.x && X.x.addrs.any fun b => decide (b = a))) w) := by
  obtain ⟨f, lb, rfl, eg, hpc⟩ := hpk
  have hc := fun u (hu : Below w.heap.size w u) => cnA_any X.x.addrs hX.al (hX.addrs.below hu) a
  have hp := fun u (hu : Below w.heap.size w u) => hpc u hu X (hX.below hu)
  generalize (X.x.addrs.any fun b => decide (b = a)) = D at hc ⊢
  generalize picksP p s X.x = M at hp ⊢
  obtain ⟨A1, c1', e1, _, _⟩ := hX.tags
  obtain ⟨A2, c2', e2, _, _⟩ := hX.addrs
  obtain ⟨A3, n3, c3', e3⟩ := hX.ends
  obtain ⟨⟨us, tags, addrs⟩, key, disco, tg, ad, ex, relay, en⟩ := X
  obtain ⟨v6, hi, lo⟩ := a
  simp only at *
  subst e1 e2 e3
  unfold PeV.cells at hp ⊢
  unfold Ad.cells at hc ha
  simp only at hp hc ha ⊢
  generalize tags.length = TL at *
  generalize addrs.length = AL at *
  have HC := Lib.hid hc
  have HPk := Lib.hid hp
  clear hX hc hp hpc
  have HP := Lib.hid (Blk.new w 53 #[.string key, .string disco, .string us, .slice A1 TL c1', .slice A2 AL c2', .int .u64 (ex : Int), .int .u8 (relay : Int), .slice A3 n3 c3'])
  have hb := boxed w (.cells #[.string key, .string disco, .string us, .slice A1 TL c1', .slice A2 AL c2', .int .u64 (ex : Int), .int .u8 (relay : Int), .slice A3 n3 c3'] 53)
  have HA := Lib.hid (ha.below hb ha.lt)
  have m0 := cellB hm hb
  have HB := Lib.hid hb
  clear ha hm hb
  go_enter Tryz.func70, Tryz.ntmps70
  go_upto_region 1 with fail
  generalize w.alloc (.cells #[.string key, .string disco, .string us, .slice A1 TL c1', .slice A2 AL c2', .int .u64 (ex : Int), .int .u8 (relay : Int), .slice A3 n3 c3'] 53) = w1 at HP HB HA m0 ⊢
  generalize w.heap.size = P at HP ⊢
  have p0 := HP.out.cell 0
  have p1 := HP.out.cell 1
  have p2 := HP.out.cell 2
  have p3 := HP.out.cell 3
  have p4 := HP.out.cell 4
  have p5 := HP.out.cell 5
  have p6 := HP.out.cell 6
  have p7 := HP.out.cell 7
  have a0 := HA.out.cell 0
  have a1 := HA.out.cell 1
  have a2 := HA.out.cell 2
  simp at p0 p1 p2 p3 p4 p5 p6 p7 a0 a1 a2
  cases M with
  | false =>
    go_wp2_with (go_at_fn f; (with_reducible refine (HPk.out _ HB.out).mono ?_); rintro r w2 ⟨rfl, d2⟩)
    go_ret
    exact ⟨rfl, after HB.out d2⟩
  | true =>
    go_wp2_with (first
      | (go_at_fn f; (with_reducible refine (HPk.out _ HB.out).mono ?_); rintro r w2 ⟨rfl, d2⟩; have p4' := cellB p4 d2; have a0' := cellB a0 d2; have a1' := cellB a1 d2; have a2' := cellB a2 d2)
      | (go_at_call 71; (with_reducible refine (HC.out _ (after HB.out d2)).mono ?_); rintro r w3 ⟨rfl, d3⟩))
    go_ret
    exact ⟨rfl, after HB.out (after d2 d3)⟩
theorem rhas1At {w : World} {p : Po} {s : Sel} {gm ga : Nat} {mv : Value} (hm : w.cell? ⟨gm, 0, none⟩ = some mv) (hpk : PicksAt w p s mv) {a : Ad} (ha : Blk w ga 40 a.cells) {pv : Value} {l : List Pe} (hp : PeRd w pv l) (hpl : l.length ≤ 4000000) :
    Calls Tryz.prog 69 #[pv, .func (.func 70) #[] #[.pointer (some ⟨gm, 0, none⟩), .pointer (some ⟨ga, 0, none⟩)]] w (Got (.bool (l.any fun x => picksP p s x && x.addrs.any fun b => decide (b = a))) w) :=
  coPe_of hp hpl _ _ _ (enters_of Tryz.func70 (by kernel_rfl) rfl) fun W hW X hX => rhas1_any gm ga (cellB hm hW) (hpk.below hW) a (ha.below hW ha.lt) hX
end Go.Proofs.YthglckoikjfjkaaGreatDoor

/- Rules: has a selector an address? (Has), has one of some? (some): the walks. -/
namespace Go.Proofs.YthglckoikjfjkaaGreatDoor
open Go.RowKit
attribute [local go_sem ↓] Go.wp_at_zero Go.wp_at_succ

theorem run_store_fn {P : Program} {w : World} {a : Addr} {m : Mode} (f : Fn) (bs lb : Array Value) : (store a (.func f bs lb) m).run P w = stored P w a (.func f bs lb) m := run_store P w a _ m rfl
attribute [local go_sem] run_store_fn
theorem findH_mem {p : Po} {s : ByteArray} {x : Hs} (h : findH p s = some x) : x ∈ p.hosts := List.mem_of_find?_eq_some h
set_option maxHeartbeats 8000000 in
set_option maxRecDepth 100000 in
theorem rhas_any {w : World} (env : Env w) {V : PoV} {p : Po} (h : PoRd w V p) (fit : PoFit p) {pv : Value} {l : List Pe} (hp : PeRd w pv l) (hpl : l.length ≤ 4000000) (s : Sel) (os : s.net.Ok) (a : Ad) (oa : a.Ok) :
    Calls Tryz.prog 34 #[.agg #[V.g, V.t, V.h, V.a], pv, .agg s.cells, .agg a.cells] w (Got (.bool (hasP p l s a)) w) := by
  have hmay := fun u (hu : Below w.heap.size w u) => mayQ_any (env.below hu) a oa
  have hhost := fun u (hu : Below w.heap.size w u) => host_any (h.below hu) (by have := fit.hl; omega) s.name
  have hnet := fun u => holds_any s.net a os oa u
  have hhs := fun (x : Hs) (hx : findH p s.name = some x) u => holds_any x.net a (fit.h x (findH_mem hx)).2 oa u
  have hpk := fun u (hu : Below w.heap.size w u) => picks_any h hu (by have := fit.gl; omega) (fun n hn => by have := (fit.g n hn).len; omega) s
  have hcon := fun u gm ga (mv : Value) (hu : Below w.heap.size w u) (hm : u.cell? ⟨gm, 0, none⟩ = some mv) (hq : PicksAt u p s mv) (ha : Blk u ga 40 a.cells) => rhas1At hm hq ha (hp.below hu) hpl
  obtain ⟨R, hR⟩ : ∃ r, r = hasP p l s a := ⟨_, rfl⟩
  rw [← hR]
  unfold hasP at hR
  generalize (l.any fun x => picksP p s x && x.addrs.any fun b => decide (b = a)) = RP at hR hcon
  generalize hm0 : a.may = M at hR hmay
  generalize hn0 : holdsP s.net a = RN at hR hnet
  generalize hf0 : findH p s.name = F at hR hhost hhs
  obtain ⟨Ag, At, Ah, Aa, cg, ct, ch, ca, rfl⟩ := copied h
  obtain ⟨Ap, cp, rfl⟩ := hp.shape
  generalize p.groups.length = NG at *
  generalize p.tags.length = NT at *
  generalize p.hosts.length = NH at *
  generalize p.acls.length = NA at *
  generalize l.length = NL at *
  clear env h fit hp hpl os oa hm0 hn0 hf0
  obtain ⟨kd, nm, ⟨⟨sv, sh, sl⟩, sb⟩⟩ := s
  obtain ⟨v6, hi, lo⟩ := a
  unfold Ad.cells at hmay hcon
  unfold Pf.cells Ad.cells at hnet hhs
  unfold Sel.cells at hpk
  simp only at hmay hhost hnet hpk hcon hR hhs
  unfold Ad.cells Sel.cells
  simp only
  have HMay := Lib.hid hmay
  have HHost := Lib.hid hhost
  have HNet := Lib.hid hnet
  have HHs := Lib.hid hhs
  have HPk := Lib.hid hpk
  have HCon := Lib.hid hcon
  have HR := Lib.hid hR
  clear hmay hhost hnet hhs hpk hcon hR
  have HB := Lib.hid (three_boxed w (.cells #[.slice Ag NG cg, .slice At NT ct, .slice Ah NH ch, .slice Aa NA ca] 26) (.cells #[.int .u8 (kd : Int), .string nm, .bool sv, .int .u64 (sh : Int), .int .u64 (sl : Int), .int .u8 (sb : Int)] 66) (.cells #[.bool v6, .int .u64 (hi : Int), .int .u64 (lo : Int)] 40))
  have hp := Blk.new w 26 #[.slice Ag NG cg, .slice At NT ct, .slice Ah NH ch, .slice Aa NA ca]
  have HP := Lib.hid (hp.below (two_boxed _ (.cells #[.int .u8 (kd : Int), .string nm, .bool sv, .int .u64 (sh : Int), .int .u64 (sl : Int), .int .u8 (sb : Int)] 66) (.cells #[.bool v6, .int .u64 (hi : Int), .int .u64 (lo : Int)] 40)) hp.lt)
  have HS := Lib.hid (mid3 w (.cells #[.slice Ag NG cg, .slice At NT ct, .slice Ah NH ch, .slice Aa NA ca] 26) (.cells #[.bool v6, .int .u64 (hi : Int), .int .u64 (lo : Int)] 40) 66 #[.int .u8 (kd : Int), .string nm, .bool sv, .int .u64 (sh : Int), .int .u64 (sl : Int), .int .u8 (sb : Int)])
  have ha := Blk.new ((w.alloc (.cells #[.slice Ag NG cg, .slice At NT ct, .slice Ah NH ch, .slice Aa NA ca] 26)).alloc (.cells #[.int .u8 (kd : Int), .string nm, .bool sv, .int .u64 (sh : Int), .int .u64 (sl : Int), .int .u8 (sb : Int)] 66)) 40 #[.bool v6, .int .u64 (hi : Int), .int .u64 (lo : Int)]
  rw [show ((w.alloc (.cells #[.slice Ag NG cg, .slice At NT ct, .slice Ah NH ch, .slice Aa NA ca] 26)).alloc (.cells #[.int .u8 (kd : Int), .string nm, .bool sv, .int .u64 (sh : Int), .int .u64 (sl : Int), .int .u8 (sb : Int)] 66)).heap.size = w.heap.size + 1 + 1 by simp] at ha
  have HA := Lib.hid ha
  clear hp ha
  go_enter Tryz.func34, Tryz.ntmps34
  go_upto_region 1 with fail
  generalize ((w.alloc (.cells #[.slice Ag NG cg, .slice At NT ct, .slice Ah NH ch, .slice Aa NA ca] 26)).alloc (.cells #[.int .u8 (kd : Int), .string nm, .bool sv, .int .u64 (sh : Int), .int .u64 (sl : Int), .int .u8 (sb : Int)] 66)).alloc (.cells #[.bool v6, .int .u64 (hi : Int), .int .u64 (lo : Int)] 40) = w1 at HB HP HS HA ⊢
  generalize w.heap.size + 1 + 1 = A at HA ⊢
  generalize w.heap.size + 1 = G at HS ⊢
  generalize hP : w.heap.size = P at HP ⊢
  clear hP
  have a0 := HA.out.cell 0
  have a1 := HA.out.cell 1
  have a2 := HA.out.cell 2
  simp at a0 a1 a2
  cases M with
  | false =>
    have HRf := Lib.hid (HR.out.trans (Bool.false_and _))
    go_wp2_with (go_at_call 21; (with_reducible refine (HMay.out _ HB.out).mono ?_); rintro r w2 ⟨rfl, d2⟩)
    go_ret
    exact ⟨by rw [HRf.out]; rfl, after HB.out d2⟩
  | true =>
    have HRt := Lib.hid (HR.out.trans (Bool.true_and _))
    clear HR
    go_upto_region 3 with (go_at_call 21; (with_reducible refine (HMay.out _ HB.out).mono ?_); rintro r w2 ⟨rfl, d2⟩)
    have HB2 := Lib.hid (after HB.out d2)
    have HP2 := Lib.hid (HP.out.below d2 HP.out.lt)
    have HS2 := Lib.hid (HS.out.below d2 HS.out.lt)
    have HA2 := Lib.hid (HA.out.below d2 HA.out.lt)
    clear a0 a1 a2 d2 HB HP HS HA
    have s0 := HS2.out.cell 0
    simp at s0
    by_cases k1 : kd = 1
    · have e1 : ((kd : Int) == 1) = true := by simp; omega
      have HRf : RowKit.Hid (R = true) := Lib.hid (by rw [HRt.out, if_pos k1])
      clear k1 HRt
      go_wp2_with fail
      go_ret
      exact ⟨by rw [HRf.out]; rfl, HB2.out⟩
    have e1 : ((kd : Int) == 1) = false := by simp; omega
    by_cases k5 : kd = 5
    · have e5 : ((kd : Int) == 5) = true := by simp; omega
      have HRf := HRt.out
      rw [if_neg k1, if_pos k5] at HRf
      have HRg := Lib.hid HRf
      clear k1 k5 HRt HRf
      have p0 := HP2.out.cell 0
      have p1 := HP2.out.cell 1
      have p2 := HP2.out.cell 2
      have p3 := HP2.out.cell 3
      have s1 := HS2.out.cell 1
      simp at p0 p1 p2 p3 s1
      cases F with
      | none =>
        go_upto_region 8 with (go_at_call 38; (with_reducible refine (HHost.out _ HB2.out).mono ?_); rintro r w3 ⟨⟨n, rfl, hn⟩, d3⟩; (obtain ⟨⟨nv, nh, nl⟩, nb⟩ := n); unfold Pf.cells; simp only [Option.isSome])
        go_wp2_with fail
        go_ret
        exact ⟨by rw [HRg.out]; rfl, after HB2.out (after d3 (boxed _ _))⟩
      | some x =>
        have hx := HHs.out x rfl
        obtain ⟨xn, ⟨⟨xv, xh, xl⟩, xb⟩⟩ := x
        simp only at hx
        have HX := Lib.hid hx
        clear hx
        go_upto_region 8 with (go_at_call 38; (with_reducible refine (HHost.out _ HB2.out).mono ?_); rintro r w3 ⟨⟨n, rfl, hn⟩, d3⟩; (obtain rfl := hn _ rfl); unfold Pf.cells; simp only [Option.isSome])
        have hb4 := boxed w3 (.cells #[.bool xv, .int .u64 (xh : Int), .int .u64 (xl : Int), .int .u8 (xb : Int)] 64)
        have HN := Lib.hid (Blk.new w3 64 #[.bool xv, .int .u64 (xh : Int), .int .u64 (xl : Int), .int .u8 (xb : Int)])
        have HB4 := Lib.hid (after HB2.out (after d3 hb4))
        have HA4 := Lib.hid (HA2.out.below (after d3 hb4) HA2.out.lt)
        clear s0 s1 p0 p1 p2 p3 d3 hb4 HB2 HP2 HS2 HA2
        generalize w3.alloc (.cells #[.bool xv, .int .u64 (xh : Int), .int .u64 (xl : Int), .int .u8 (xb : Int)] 64) = w4 at HN HB4 HA4 ⊢
        generalize w3.heap.size = Z at HN ⊢
        have z0 := HN.out.cell 0
        have z1 := HN.out.cell 1
        have z2 := HN.out.cell 2
        have z3 := HN.out.cell 3
        have a0 := HA4.out.cell 0
        have a1 := HA4.out.cell 1
        have a2 := HA4.out.cell 2
        simp at z0 z1 z2 z3 a0 a1 a2
        go_wp2_with (go_at_call 68; (with_reducible refine (HX.out _).mono ?_); rintro r w5 ⟨rfl, d5⟩)
        go_ret
        exact ⟨by rw [HRg.out]; rfl, after HB4.out d5⟩
    have e5 : ((kd : Int) == 5) = false := by simp; omega
    by_cases k6 : kd = 6
    · have e6 : ((kd : Int) == 6) = true := by simp; omega
      have HRf := HRt.out
      rw [if_neg k1, if_neg k5, if_pos k6] at HRf
      have HRg := Lib.hid HRf
      clear k1 k5 k6 HRt HRf
      have s2 := HS2.out.cell 2
      have s3 := HS2.out.cell 3
      have s4 := HS2.out.cell 4
      have s5 := HS2.out.cell 5
      have a0 := HA2.out.cell 0
      have a1 := HA2.out.cell 1
      have a2 := HA2.out.cell 2
      simp at s2 s3 s4 s5 a0 a1 a2
      go_wp2_with (go_at_call 68; (with_reducible refine (HNet.out _).mono ?_); rintro r w5 ⟨rfl, d5⟩)
      go_ret
      exact ⟨by rw [HRg.out]; rfl, after HB2.out d5⟩
    have e6 : ((kd : Int) == 6) = false := by simp; omega
    have HRf := HRt.out
    rw [if_neg k1, if_neg k5, if_neg k6] at HRf
    have HRg := Lib.hid HRf
    clear k1 k5 k6 HRt HRf
    have s1 := HS2.out.cell 1
    have s2 := HS2.out.cell 2
    have s3 := HS2.out.cell 3
    have s4 := HS2.out.cell 4
    have s5 := HS2.out.cell 5
    have p0 := HP2.out.cell 0
    have p1 := HP2.out.cell 1
    have p2 := HP2.out.cell 2
    have p3 := HP2.out.cell 3
    simp at s1 s2 s3 s4 s5 p0 p1 p2 p3
    go_upto_region 12 with (go_at_call 39; (with_reducible refine (HPk.out _ HB2.out).mono ?_); rintro r w3 ⟨⟨mv, rfl, hmv⟩, d3⟩; (obtain ⟨fv, lb, rfl, hmw⟩ := hmv.at_ (after HB2.out d3)); clear hmv; have hmq := Lib.hid (show PicksAt w3 p ⟨kd, nm, ⟨⟨sv, sh, sl⟩, sb⟩⟩ (.func (.func fv) #[] lb) from ⟨fv, lb, rfl, hmw⟩))
    have hb4 := boxed w3 (.cells #[.func (.func fv) #[] lb] 98)
    have HM := Lib.hid (show (w3.alloc (.cells #[.func (.func fv) #[] lb] 98)).cell? ⟨w3.heap.size, 0, none⟩ = some (.func (.func fv) #[] lb) from (Blk.new w3 98 #[.func (.func fv) #[] lb]).cell 0)
    have HQ := Lib.hid (hmq.out.below hb4)
    have HB4 := Lib.hid (after HB2.out (after d3 hb4))
    have HA4 := Lib.hid (HA2.out.below (after d3 hb4) HA2.out.lt)
    clear s0 s1 s2 s3 s4 s5 p0 p1 p2 p3 d3 hb4 HB2 HP2 HS2 HA2 hmq
    generalize w3.alloc (.cells #[.func (.func fv) #[] lb] 98) = w4 at HM HB4 HA4 HQ ⊢
    generalize w3.heap.size = Z at HM ⊢
    go_wp2_with (go_at_call 69; (with_reducible refine (HCon.out _ _ _ _ HB4.out HM.out HQ.out HA4.out).mono ?_); rintro r w5 ⟨rfl, d5⟩)
    go_ret
    exact ⟨by rw [HRg.out]; rfl, after HB4.out d5⟩
end Go.Proofs.YthglckoikjfjkaaGreatDoor

/- Rules: has one of some selectors an address? (some): the walks; rows of selectors, ports, accepts. -/
namespace Go.Proofs.YthglckoikjfjkaaGreatDoor
open Go.RowKit
attribute [local go_sem ↓] Go.wp_at_zero Go.wp_at_succ

theorem se_len (s : Sel) : s.cells.toList.length = 6 := rfl
theorem coSe_of {w : World} {v : Value} {ss : List Sel} (hr : RowR w v ss.length 6 (selCells ss)) (hl : ss.length ≤ 4000000) (q : Sel → Bool) (f : Nat) (lb : Array Value) (eg : ∀ args w, (callFunc f args).run Tryz.prog w = .ok (.enter f args) w)
    (hf : ∀ W, Below w.heap.size w W → ∀ s ∈ ss, Calls Tryz.prog f (#[.agg s.cells] ++ lb) W (Got (.bool (q s)) W)) :
    Calls Tryz.prog 32 #[v, .func (.func f) #[] lb] w (Got (.bool (ss.any q)) w) := by
  rw [← any_range]
  obtain ⟨A, cap, rfl⟩ := hr.shape
  refine coSe_any hl _ _ hr.cellsAt f lb eg fun k hk W hW => ?_
  have hxk : ss[k]? = some ss[k] := List.getElem?_eq_getElem hk
  unfold selCells
  simp only [hxk]
  rw [flat_drop _ 6 se_len ss k _ hxk]
  exact hf W hW _ (List.getElem_mem hk)
def poPair (x : Nat × Nat) : List Value := [.int .u16 (x.1 : Int), .int .u16 (x.2 : Int)]
theorem po_len (x : Nat × Nat) : (poPair x).length = 2 := rfl
theorem coPo_of {w : World} {v : Value} {os : List (Nat × Nat)} (hr : RowR w v os.length 2 (portCells os)) (hl : os.length ≤ 4000000) (q : Nat × Nat → Bool) (f : Nat) (lb : Array Value) (eg : ∀ args w, (callFunc f args).run Tryz.prog w = .ok (.enter f args) w)
    (hf : ∀ W, Below w.heap.size w W → ∀ x ∈ os, Calls Tryz.prog f (#[.agg #[.int .u16 (x.1 : Int), .int .u16 (x.2 : Int)]] ++ lb) W (Got (.bool (q x)) W)) :
    Calls Tryz.prog 56 #[v, .func (.func f) #[] lb] w (Got (.bool (os.any q)) w) := by
  rw [← any_range]
  obtain ⟨A, cap, rfl⟩ := hr.shape
  refine coPo_any hl _ _ hr.cellsAt f lb eg fun k hk W hW => ?_
  have hxk : os[k]? = some os[k] := List.getElem?_eq_getElem hk
  rw [show portCells os = os.flatMap poPair from rfl]
  simp only [hxk]
  rw [flat_drop poPair 2 po_len os k _ hxk]
  exact hf W hW _ (List.getElem_mem hk)
def acQuad (x : AcV) : List Value := [x.p, x.s, x.d, x.o]
theorem ac_len (x : AcV) : (acQuad x).length = 4 := rfl
theorem coAc_of {w : World} {v : Value} {al : List Ac} (h : AcRd w v al) (hl : al.length ≤ 4000000) (q : Ac → Bool) (f : Nat) (lb : Array Value) (eg : ∀ args w, (callFunc f args).run Tryz.prog w = .ok (.enter f args) w)
    (hf : ∀ W, Below w.heap.size w W → ∀ x : AcV, x.a ∈ al → AcRdM W x → Calls Tryz.prog f (#[.agg #[x.p, x.s, x.d, x.o]] ++ lb) W (Got (.bool (q x.a)) W)) :
    Calls Tryz.prog 29 #[v, .func (.func f) #[] lb] w (Got (.bool (al.any q)) w) := by
  obtain ⟨xs, rfl, hr, hx⟩ := h
  rw [List.length_map] at hl hr
  rw [List.any_map, ← any_range]
  obtain ⟨A, cap, rfl⟩ := hr.shape
  refine coAc_any hl _ _ hr.cellsAt f lb eg fun k hk W hW => ?_
  have hxk : xs[k]? = some xs[k] := List.getElem?_eq_getElem hk
  rw [show acCells xs = xs.flatMap acQuad from rfl]
  simp only [hxk]
  rw [flat_drop acQuad 4 ac_len xs k _ hxk]
  exact hf W hW _ (List.mem_map_of_mem (List.getElem_mem hk)) ((hx _ (List.getElem_mem hk)).below hW)

set_option maxHeartbeats 4000000 in
set_option maxRecDepth 100000 in
theorem some1_any {w : World} (env : Env w) {V : PoV} {p : Po} (h : PoRd w V p) (fit : PoFit p) {pv : Value} {l : List Pe} (hp : PeRd w pv l) (hpl : l.length ≤ 4000000) (gp gl ga : Nat) (bp : Blk w gp 26 #[V.g, V.t, V.h, V.a]) (bl : w.cell? ⟨gl, 0, none⟩ = some pv) (a : Ad) (oa : a.Ok) (ba : Blk w ga 40 a.cells) (s : Sel) (os : s.net.Ok) :
    Calls Tryz.prog 33 #[.agg s.cells, .pointer (some ⟨gp, 0, none⟩), .pointer (some ⟨gl, 0, none⟩), .pointer (some ⟨ga, 0, none⟩)] w (Got (.bool (hasP p l s a)) w) := by
  have hh := fun u (hu : Below w.heap.size w u) => rhas_any (env.below hu) (h.below hu) fit (hp.below hu) hpl s os a oa
  generalize hasP p l s a = R at hh ⊢
  obtain ⟨Ag, At, Ah, Aa, cg, ct, ch, ca, rfl⟩ := copied h
  obtain ⟨Ap, cp, rfl⟩ := hp.shape
  generalize p.groups.length = NG at *
  generalize p.tags.length = NT at *
  generalize p.hosts.length = NH at *
  generalize p.acls.length = NA at *
  generalize l.length = NL at *
  clear env h fit hp hpl os oa
  obtain ⟨kd, nm, ⟨⟨sv, sh, sl⟩, sb⟩⟩ := s
  obtain ⟨v6, hi, lo⟩ := a
  unfold Ad.cells Sel.cells at hh
  unfold Ad.cells at ba
  unfold Sel.cells
  simp only at hh ba bp ⊢
  have HH := Lib.hid hh
  have hb := boxed w (.cells #[.int .u8 (kd : Int), .string nm, .bool sv, .int .u64 (sh : Int), .int .u64 (sl : Int), .int .u8 (sb : Int)] 66)
  have HS := Lib.hid (Blk.new w 66 #[.int .u8 (kd : Int), .string nm, .bool sv, .int .u64 (sh : Int), .int .u64 (sl : Int), .int .u8 (sb : Int)])
  have HP := Lib.hid (bp.below hb bp.lt)
  have HA := Lib.hid (ba.below hb ba.lt)
  have l0 := cellB bl hb
  have HB := Lib.hid hb
  clear hh bl bp ba hb
  go_enter Tryz.func33, Tryz.ntmps33
  go_upto_region 1 with fail
  generalize w.alloc (.cells #[.int .u8 (kd : Int), .string nm, .bool sv, .int .u64 (sh : Int), .int .u64 (sl : Int), .int .u8 (sb : Int)] 66) = w1 at HB HP HS HA l0 ⊢
  generalize w.heap.size = G at HS ⊢
  have s0 := HS.out.cell 0
  have s1 := HS.out.cell 1
  have s2 := HS.out.cell 2
  have s3 := HS.out.cell 3
  have s4 := HS.out.cell 4
  have s5 := HS.out.cell 5
  have p0 := HP.out.cell 0
  have p1 := HP.out.cell 1
  have p2 := HP.out.cell 2
  have p3 := HP.out.cell 3
  have a0 := HA.out.cell 0
  have a1 := HA.out.cell 1
  have a2 := HA.out.cell 2
  simp at s0 s1 s2 s3 s4 s5 p0 p1 p2 p3 a0 a1 a2
  go_wp2_with (go_at_call 34; (with_reducible refine (HH.out _ HB.out).mono ?_); rintro r w2 ⟨rfl, d2⟩)
  go_ret
  exact ⟨rfl, after HB.out d2⟩

set_option maxHeartbeats 4000000 in
set_option maxRecDepth 100000 in
theorem some_any {w : World} (env : Env w) {V : PoV} {p : Po} (h : PoRd w V p) (fit : PoFit p) {pv : Value} {l : List Pe} (hp : PeRd w pv l) (hpl : l.length ≤ 4000000) {sv : Value} {ss : List Sel} (hs : RowR w sv ss.length 6 (selCells ss)) (hsl : ss.length ≤ 4000000) (os : ∀ s ∈ ss, s.net.Ok) (a : Ad) (oa : a.Ok) :
    Calls Tryz.prog 15 #[.agg #[V.g, V.t, V.h, V.a], pv, sv, .agg a.cells] w (Got (.bool (someP p l ss a)) w) := by
  have hco := fun u (hu : Below w.heap.size w u) gp gl ga (bp : Blk u gp 26 #[V.g, V.t, V.h, V.a]) (bl : u.cell? ⟨gl, 0, none⟩ = some pv) (ba : Blk u ga 40 a.cells) =>
    coSe_of (hs.below hu) hsl (fun s => hasP p l s a) 33 #[.pointer (some ⟨gp, 0, none⟩), .pointer (some ⟨gl, 0, none⟩), .pointer (some ⟨ga, 0, none⟩)] (enters_of Tryz.func33 (by kernel_rfl) rfl)
      fun W hW s hm => some1_any (env.below (after hu hW)) (h.below (after hu hW)) fit (hp.below (after hu hW)) hpl gp gl ga (bp.below hW bp.lt) (cellB bl hW) a oa (ba.below hW ba.lt) s (os s hm)
  unfold someP
  generalize (ss.any fun s => hasP p l s a) = R at hco ⊢
  obtain ⟨Ag, At, Ah, Aa, cg, ct, ch, ca, rfl⟩ := copied h
  obtain ⟨Ap, cp, rfl⟩ := hp.shape
  obtain ⟨As, cs, rfl⟩ := hs.shape
  generalize p.groups.length = NG at *
  generalize p.tags.length = NT at *
  generalize p.hosts.length = NH at *
  generalize p.acls.length = NA at *
  generalize l.length = NL at *
  generalize ss.length = NS at *
  clear env h fit hp hpl os oa hs hsl
  obtain ⟨v6, hi, lo⟩ := a
  unfold Ad.cells at hco
  unfold Ad.cells
  simp only at hco ⊢
  have HCo := Lib.hid hco
  have HB := Lib.hid (three_boxed w (.cells #[.slice Ag NG cg, .slice At NT ct, .slice Ah NH ch, .slice Aa NA ca] 26) (.cells #[.slice Ap NL cp] 27) (.cells #[.bool v6, .int .u64 (hi : Int), .int .u64 (lo : Int)] 40))
  have hp := Blk.new w 26 #[.slice Ag NG cg, .slice At NT ct, .slice Ah NH ch, .slice Aa NA ca]
  have HP := Lib.hid (hp.below (two_boxed _ (.cells #[.slice Ap NL cp] 27) (.cells #[.bool v6, .int .u64 (hi : Int), .int .u64 (lo : Int)] 40)) hp.lt)
  have hl : World.cell? _ ⟨w.heap.size + 1, 0, none⟩ = some (.slice Ap NL cp) := (mid3 w (.cells #[.slice Ag NG cg, .slice At NT ct, .slice Ah NH ch, .slice Aa NA ca] 26) (.cells #[.bool v6, .int .u64 (hi : Int), .int .u64 (lo : Int)] 40) 27 #[.slice Ap NL cp]).cell 0
  have ha := Blk.new ((w.alloc (.cells #[.slice Ag NG cg, .slice At NT ct, .slice Ah NH ch, .slice Aa NA ca] 26)).alloc (.cells #[.slice Ap NL cp] 27)) 40 #[.bool v6, .int .u64 (hi : Int), .int .u64 (lo : Int)]
  rw [show ((w.alloc (.cells #[.slice Ag NG cg, .slice At NT ct, .slice Ah NH ch, .slice Aa NA ca] 26)).alloc (.cells #[.slice Ap NL cp] 27)).heap.size = w.heap.size + 1 + 1 by simp] at ha
  have HA := Lib.hid ha
  have HL := Lib.hid hl
  clear hp ha hl hco
  go_enter Tryz.func15, Tryz.ntmps15
  go_upto_region 1 with fail
  generalize ((w.alloc (.cells #[.slice Ag NG cg, .slice At NT ct, .slice Ah NH ch, .slice Aa NA ca] 26)).alloc (.cells #[.slice Ap NL cp] 27)).alloc (.cells #[.bool v6, .int .u64 (hi : Int), .int .u64 (lo : Int)] 40) = w1 at HB HP HL HA ⊢
  generalize w.heap.size + 1 + 1 = A at HA ⊢
  generalize w.heap.size + 1 = L at HL ⊢
  generalize hP : w.heap.size = P at HP ⊢
  clear hP
  go_wp2_with (go_at_call 32; (with_reducible refine (HCo.out _ HB.out _ _ _ HP.out HL.out HA.out).mono ?_); rintro r w2 ⟨rfl, d2⟩)
  go_ret
  exact ⟨rfl, after HB.out d2⟩
end Go.Proofs.YthglckoikjfjkaaGreatDoor

/- Two policies that are alike (Same): the walk, where they are. -/
namespace Go.Proofs.YthglckoikjfjkaaGreatDoor
open Go.RowKit
attribute [local go_sem ↓] Go.wp_at_zero Go.wp_at_succ

theorem below_cell {w u : World} {g o : Nat} {v : Value} (h : w.cell? ⟨g, o, none⟩ = some v) (hb : Below w.heap.size w u) : u.cell? ⟨g, o, none⟩ = some v := (hb.cell (World.block_lt_of_cell? w _ h)).trans h
end Go.Proofs.YthglckoikjfjkaaGreatDoor
