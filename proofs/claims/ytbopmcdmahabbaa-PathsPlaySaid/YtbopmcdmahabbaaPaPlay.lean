/-
  Proved: PathsPlay: a table answers every call just as the document says. Any limits, any steps.
  The frame of this text follows the kit's template (proof-skeleton.mjs, the struct by value of IdMethvalByAgg, the slice of structs of extra-structs.md); the walk is this claim's own.
-/
import Derived.Test.YtbopmcdmahabbaaRows
import Derived.WalkKit
import Derived.Test.YtbopmcdmahabbaaPdP
import Derived.ProofKit
import Derived.OpenShut
import Derived.Lib.SmallJoins
import Derived.Deep.Slices
import Derived.Deep.Fields
import Derived.ChangeSame
import Derived.ChangeOld
import Derived.Below
namespace Go.Proofs.Ytbopmcdmahabbaa.pathsPlay
open Go.ChangeShapes Go.WideShapes Go.ChangeAt Go.RowKit Go.Joins Go.Deep
set_option linter.unusedVariables false

theorem own : ownKnob Try.prog.godebug = none := by kernel_rfl
theorem laidOut : laidOutB Try.prog = true := by kernel_rfl
theorem cells24 : Try.prog.cellsOf 24 = 4 := by kernel_rfl
theorem cells45 : Try.prog.cellsOf 45 = 4 := by kernel_rfl

section
variable {H : Type} {enc : TypeId × Value → H} {P : Program} {w : World} {base : Nat} {spare : Nat → Bool} {held : Bool}
theorem open_slice_fields {t e : TypeId} {fs : Array Field} {fuel : Nat} {cs : List Value} {x : DataW H × List MemPlace} (ht : P.underlying t = some (.slice e)) (he : P.underlying e = some (.struct fs))
    (hone : oneCellFields P fs = true) (hC : P.cellsOf e = fs.size) (h : DataW.trod enc P w base spare held fuel t cs = some x) :
    (cs = [.slice none 0 0] ∧ x = (.nil, [])) ∨
    ∃ (a : Addr) (len cap m : Nat) (D : Nat → DataW H) (Pl : Nat → List MemPlace), cs = [.slice (some a) len cap] ∧ base ≤ a.block ∧ len ≤ cap ∧ cap ≤ maxLen ∧ m = (if spare a.block then cap else len) ∧
      x = (.slice ((List.range len).map D) ((List.range (m - len)).map fun j => D (len + j)), MemPlace.row a (m * fs.size) ++ (List.range m).flatMap Pl) ∧
      ∀ i, i < m → ∃ (ys : List (DataW H × List MemPlace)) (n : Nat), D i = .agg (ys.map (·.1)) ∧ Pl i = ys.flatMap (·.2) ∧ ys.length = fs.size ∧
        ∀ (j : Nat) (f : Field), fs[j]? = some f → ∃ (v : Value) (y : DataW H × List MemPlace), w.cell? (a.add (i * fs.size + j)) = some v ∧ ys[j]? = some y ∧ DataW.trod enc P w base spare held n f.type [v] = some y := by
  rcases open_slice ht h with h0 | ⟨a, len, cap, m, n, D, Pl, hcs, hb, hl, hm, hmm, hx, hi⟩
  · exact .inl h0
  · refine .inr ⟨a, len, cap, m, D, Pl, hcs, hb, hl, hm, hmm, by rw [hC] at hx; exact hx, fun i him => ?_⟩
    obtain ⟨cs', hc, ht'⟩ := hi i him
    rw [hC] at hc
    obtain ⟨ys, n', hn', hy, hlen, hyl, hf⟩ := DataW.trod_struct he ht'
    obtain ⟨_, hcl, hat⟩ := World.cells?_some hc
    simp only [Prod.mk.injEq] at hy
    refine ⟨ys, n', hy.1, hy.2, hyl, fun j f hj => ?_⟩
    obtain ⟨ho, hk⟩ := hone_of hone j f hj
    have hjl : j < fs.size := (Array.getElem?_eq_some_iff.1 hj).1
    have hcell := hat j hjl
    have hv : cs'[j]? = some (cs'[j]'(by omega)) := List.getElem?_eq_getElem (by omega)
    have h1 := hf j f hj
    rw [ho, hk] at h1
    have hone' : (cs'.drop j).take 1 = [cs'[j]'(by omega)] := by
      rw [List.drop_eq_getElem_cons (by omega)]
      rfl
    rw [hone'] at h1
    have hys : ys[j]? = some (ys[j]'(by omega)) := List.getElem?_eq_getElem (by omega)
    refine ⟨_, _, ?_, hys, h1.trans hys⟩
    rw [← Go.Deep.add_add, hcell, hv]
end

/- The steps that came in. -/
theorem steps_of {H : Type} {enc : TypeId × Value → H} {W : World} {A : Option Addr} {len cap : Nat} {d : DataW H} {pl : List MemPlace} (h : DataW.Trod enc Try.prog W 0 (fun _ => true) true 43 (.slice A len cap) d pl) : ∃ L, Steps W A len L := by
  obtain ⟨fuel, hf⟩ := h
  rcases open_slice_fields Try.underlying43 Try.underlying45 (by kernel_rfl) cells45 hf with ⟨hcs, _⟩ | ⟨a, l, c, m, D, Pl, hcs, hb, hl, hmx, hm, hx, hi⟩
  · simp [Value.cells] at hcs
    obtain ⟨rfl, rfl, rfl⟩ := hcs
    exact ⟨fun _ => ⟨0, 0, 0, 0⟩, fun i h => by omega, fun i h => by omega, fun i h => by omega, fun h => by omega⟩
  · simp [Value.cells] at hcs
    obtain ⟨rfl, rfl, rfl⟩ := hcs
    have hm' : len ≤ m := by
      rw [hm]
      split <;> omega
    have hcell : ∀ i, ∃ s : Stp, i < len → s.tx < 256 ∧ s.en < 256 ∧ s.now < M64 ∧ W.cell? (a.add (i * 4 + 0)) = some (.int .i64 s.dO) ∧ W.cell? (a.add (i * 4 + 1)) = some (.int .u8 (s.tx : Int)) ∧ W.cell? (a.add (i * 4 + 2)) = some (.int .u8 (s.en : Int)) ∧ W.cell? (a.add (i * 4 + 3)) = some (.int .u64 (s.now : Int)) := by
      intro i
      by_cases hil : i < len
      · obtain ⟨ys, n, _, _, _, hfs⟩ := hi i (by omega)
        obtain ⟨v0, y0, c0, _, t0⟩ := hfs 0 _ rfl
        obtain ⟨v1, y1, c1, _, t1⟩ := hfs 1 _ rfl
        obtain ⟨v2, y2, c2, _, t2⟩ := hfs 2 _ rfl
        obtain ⟨v3, y3, c3, _, t3⟩ := hfs 3 _ rfl
        obtain ⟨n0, e0, _, w0⟩ := DataW.trod_int Try.underlying3 t0
        obtain ⟨n1, e1, _, w1⟩ := DataW.trod_int Try.underlying5 t1
        obtain ⟨n2, e2, _, w2⟩ := DataW.trod_int Try.underlying5 t2
        obtain ⟨n3, e3, _, w3⟩ := DataW.trod_int Try.underlying22 t3
        simp at e0 e1 e2 e3
        subst e0 e1 e2 e3
        have b1 := bounds_u8 w1
        have b2 := bounds_u8 w2
        have b3 := bounds_u64 w3
        obtain ⟨n1, rfl⟩ := Int.eq_ofNat_of_zero_le b1.1
        obtain ⟨n2, rfl⟩ := Int.eq_ofNat_of_zero_le b2.1
        obtain ⟨n3, rfl⟩ := Int.eq_ofNat_of_zero_le b3.1
        exact ⟨⟨n0, n1, n2, n3⟩, fun _ => ⟨by have := b1.2; show n1 < 256; omega, by have := b2.2; show n2 < 256; omega, by have := b3.2; show n3 < 18446744073709551616; omega, c0, c1, c2, c3⟩⟩
      · exact ⟨⟨0, 0, 0, 0⟩, fun h => absurd h hil⟩
    obtain ⟨L, hL⟩ := Classical.axiomOfChoice hcell
    refine ⟨L, fun i hil => (hL i hil).1, fun i hil => (hL i hil).2.1, fun i hil => (hL i hil).2.2.1, fun hpos => ?_⟩
    have h0 := (hL 0 hpos).2.2.2.1
    obtain ⟨b, off, spot⟩ := a
    have hspot : spot = none := by simpa [Addr.add] using World.cell?_spot h0
    subst hspot
    have eadd : ∀ k, (⟨b, off, none⟩ : Addr).add k = ⟨b, off + k, none⟩ := fun k => by unfold Addr.add; split <;> simp_all
    refine ⟨b, off, rfl, ?_, fun i hil => ?_⟩
    · have := World.block_lt_of_cell? W _ h0
      rw [eadd] at this
      exact this
    · obtain ⟨_, _, _, c0, c1, c2, c3⟩ := hL i hil
      rw [eadd] at c0 c1 c2 c3
      exact ⟨c0, c1, c2, c3⟩

theorem walk (a b c d : Int) (A : Option Addr) (len cap : Nat) (L : Nat → Stp) (wa : (Lit.int .u64 a).wf = true) (wb : (Lit.int .u64 b).wf = true) (w : World) (hL : Steps w A len L) :
    Calls Try.prog 5 #[.agg #[.int .u64 a, .int .u64 b, .int .i64 c, .int .i64 d], .slice A len cap] w fun e w' => e = .returned (.bool true) ∧ Below w.heap.size w w' := by
  have ha := bounds_u64 wa
  have hb := bounds_u64 wb
  obtain ⟨a, rfl⟩ := Int.eq_ofNat_of_zero_le ha.1
  obtain ⟨b, rfl⟩ := Int.eq_ofNat_of_zero_le hb.1
  by_cases hl : len ≤ 200
  · by_cases h : okLim a b c d
    · obtain ⟨c, rfl⟩ := Int.eq_ofNat_of_zero_le (show 0 ≤ c by have := h.2.2.1.1; omega)
      obtain ⟨d, rfl⟩ := Int.eq_ofNat_of_zero_le (show 0 ≤ d by have := h.2.2.2.1; omega)
      exact play_yes a b c d A len cap L w h hl hL
    · exact play_no a b c d A len cap w h hl
  · exact play_long a b c d A len cap w (by omega)

set_option maxRecDepth 100000 in
theorem lifted (os : Os) (started : os.Started) (H : Type) (enc : TypeId × Value → H) :
    ReturnsInHanded {} Try.checked os 5 .any (Rows.pathsPlaySpec.pre6 enc Try.prog Try.f5 Rows.pathsPlayRow.domain false) (Rows.pathsPlaySpec.post enc Try.prog Try.f5 false true false false) := by
  refine returnsInHanded_of_change (C := Try.checked) own started (by kernel_rfl) Try.func5
    (ChangeSpec.witness6 (enc := enc) (C := Try.checked) false ⟨#[], #[.agg #[.int .u64 0, .int .u64 0, .int .i64 0, .int .i64 0], .slice none 0 0], []⟩ 8 (by kernel_rfl) (by kernel_rfl) (by kernel_rfl) (by kernel_rfl)) ?_
  intro W base args ds gs before hval0 hW hcnd _
  have hval : ∀ (j : Nat) t v, Try.f5.params[j]? = some t → args[j]? = some v → Value.okWide Try.prog W .any base t v := hval0
  have hW' := hW
  obtain ⟨p, q, hA0, hV, rfl, hfz, hnd⟩ := hW
  have hA : DataW.TrodAll enc Try.prog W 0 (fun _ => true) true Try.f5.params.toList args.toList ds p := hA0
  rw [Try.params5] at hA hval
  obtain ⟨v0, vs0, d0, ds0, p0, q0, hargs, rfl, rfl, h0, r0⟩ := trodAll_cons hA
  obtain ⟨v1, vs1, d1, ds1, p1, q1, rfl, rfl, rfl, h1, r1⟩ := trodAll_cons r0
  obtain ⟨rfl, rfl, rfl⟩ := trodAll_nil r1
  obtain rfl : args = #[v0, v1] := by cases args; simp_all
  obtain ⟨rfl, rfl⟩ := trodVars_none hV
  obtain ⟨c0, c1, c2, c3, y0, y1, y2, y3, m, rfl, rfl, rfl, hy0, hy1, hy2, hy3⟩ := open_agg4 Try.underlying24 (by kernel_rfl) cells24 (hval 0 24 v0 rfl rfl) h0
  obtain ⟨a, e0, rfl, wa⟩ := DataW.trod_int Try.underlying22 hy0
  obtain ⟨b, e1, rfl, wb⟩ := DataW.trod_int Try.underlying22 hy1
  obtain ⟨c, e2, rfl, wc⟩ := DataW.trod_int Try.underlying3 hy2
  obtain ⟨d, e3, rfl, wd⟩ := DataW.trod_int Try.underlying3 hy3
  simp at e0 e1 e2 e3
  subst e0 e1 e2 e3
  obtain ⟨A, len, cap, rfl⟩ := okWide_slice Try.underlying43 (hval 1 43 v1 rfl rfl)
  have k1 := h1
  have lt1 : ∀ x ∈ p1, x.block < W.heap.size := by obtain ⟨m, hm⟩ := k1; exact DataW.trod_lt m _ _ _ hm
  obtain ⟨L, hL⟩ := steps_of h1
  clear hA0 hval0
  have structReads : ∀ (W' : World) (sp : Nat → Bool), DataW.Trod enc Try.prog W' 0 sp true 24 (.agg #[.int .u64 a, .int .u64 b, .int .i64 c, .int .i64 d]) (.agg [.lit (.int .u64 a), .lit (.int .u64 b), .lit (.int .i64 c), .lit (.int .i64 d)]) [] := fun W' sp =>
    shut_agg4 (y0 := (.lit (.int .u64 a), [])) (y1 := (.lit (.int .u64 b), [])) (y2 := (.lit (.int .i64 c), [])) (y3 := (.lit (.int .i64 d), [])) Try.underlying24 (by kernel_rfl) cells24 ⟨1, by simp [DataW.trod, Try.underlying22, wa]⟩ ⟨1, by simp [DataW.trod, Try.underlying22, wb]⟩ ⟨1, by simp [DataW.trod, Try.underlying3, wc]⟩ ⟨1, by simp [DataW.trod, Try.underlying3, wd]⟩
  refine (walk a b c d A len cap L wa wb W hL).mono fun e W' ⟨he, bel⟩ => ?_
  subst he
  exact ⟨_, rfl, _, _, _, [], _, [], hW', trodAll_mk1 (shut_bool Try.underlying4 _), (trodAll_cons_mk (structReads _ _) (trodAll_cons_mk (Below.trod laidOut (by kernel_rfl) (of_decide_eq_true (by kernel_rfl)) k1 bel lt1) trodAll_mk0)), rfl, bel.frame _, fun h => by cases h⟩

theorem over : Rows.pathsPlayRow.holds Try.pinned (OpenSpec.ofChange Rows.pathsPlaySpec) :=
  OpenClaim.holds_of_wide 5 Try.f5 rfl rfl rfl rfl rfl rfl rfl ⟨rfl, rfl, rfl, rfl, rfl⟩ rfl rfl rfl rfl rfl (by kernel_rfl) Try.func5 (by kernel_rfl)
    (of_decide_eq_true (by kernel_rfl)) (by unfold Func.isWrapper; first | (rw [if_pos (by decide +kernel)]; kernel_rfl) | (rw [if_neg (by decide +kernel)]; exact ⟨rfl, rfl⟩))
    (fun os started H enc _ => lifted os started H enc)

/-- ████ THE STATEMENT ████ -/
theorem proved : Rows.PathsPlaySaid :=
  over
#print axioms proved
end Go.Proofs.Ytbopmcdmahabbaa.pathsPlay
