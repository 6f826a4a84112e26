/- Joined out of: LwB FrA. -/
import Derived.Test.YtomndcjgdfhmbaaGreatDoorJas
import Derived.Test.YtomndcjgdfhmbaaGreatDoorRows
import Derived.Test.YtomndcjgdfhmbaaGreatDoorTie
import Derived.Test.YtomndcjgdfhmbaaGreatDoorCards
import Derived.WalkKit
import Derived.ProofKit
import Derived.OpenShut
import Derived.ShutString
import Derived.ChangeMaps5
import Derived.HandedShaped
import Derived.LaidMore
import Derived.Lay
import Derived.SevenTiedAt
import Derived.Shelf.Vars
import Derived.Lib.LaidU8
set_option linter.unusedVariables false
set_option linter.unusedSimpArgs false

/- IpReads: the walk. (Printed by lw_ab.py.) -/
namespace Go.Proofs.YtomndcjgdfhmbaaGreatDoor
open Go.RowKit

set_option maxHeartbeats 8000000 in
set_option maxRecDepth 100000 in
theorem reads_any {w : World} (env : Env w) (s : ByteArray) : Calls Tryz.prog 4 #[.string s] w (Got (.bool true) w) := by
  have hwk := fun v (hv : Below w.heap.size w v) => works_any (env.below hv)
  have HWK := Lib.hid hwk
  clear hwk env
  by_cases hbig : s.size ≤ 8192
  · have q1 : ¬ (8192 : Int) < (s.size : Int) := by omega
    have hd := fun v => decode_any s (by omega) v
    have hr := fun v => rdecode_any s (by omega) v
    unfold Res at hd hr
    generalize decE s = ER at hd hr
    generalize (if ER = 0 then decP s else Pk.zero) = p at hd hr
    obtain ⟨⟨v, x, l⟩, ⟨v', x', l'⟩, pr, tt, D⟩ := p
    unfold Pk.cells at *
    simp only at hd hr
    have HD := Lib.hid hd
    have HR := Lib.hid hr
    clear hd hr hbig
    have hb0 := Below.refl w.heap.size w
    go_enter Tryz.func4, Tryz.ntmps4
    go_wp2_with fail
    go_at_call 16
    refine (HD.out _).mono ?_
    rintro r w1 ⟨rfl, d1⟩
    have HB2 := Lib.hid (Blk.new w1 26 #[.bool v, .int .u64 (x : Int), .int .u64 (l : Int), .bool v', .int .u64 (x' : Int), .int .u64 (l' : Int), .int .u8 (pr : Int), .int .u8 (tt : Int), .string D])
    have Hb2 := Lib.hid (after d1 (boxed w1 (.cells #[.bool v, .int .u64 (x : Int), .int .u64 (l : Int), .bool v', .int .u64 (x' : Int), .int .u64 (l' : Int), .int .u8 (pr : Int), .int .u8 (tt : Int), .string D] 26)))
    have hw1 : w.heap.size ≤ w1.heap.size := d1.size
    clear d1 hb0
    go_upto_region 4 with fail
    generalize w1.alloc (.cells #[.bool v, .int .u64 (x : Int), .int .u64 (l : Int), .bool v', .int .u64 (x' : Int), .int .u64 (l' : Int), .int .u8 (pr : Int), .int .u8 (tt : Int), .string D] 26) = w2 at HB2 Hb2 ⊢
    generalize w1.heap.size = g1 at HB2 hw1 ⊢
    go_wp2_with fail
    go_at_call 17
    refine (HR.out _).mono ?_
    rintro r w3 ⟨rfl, d3⟩
    have hB4 := (HB2.out.below d3 HB2.out.lt).alloc (.cells #[.bool v, .int .u64 (x : Int), .int .u64 (l : Int), .bool v', .int .u64 (x' : Int), .int .u64 (l' : Int), .int .u8 (pr : Int), .int .u8 (tt : Int), .string D] 26)
    have hD4 := Blk.new w3 26 #[.bool v, .int .u64 (x : Int), .int .u64 (l : Int), .bool v', .int .u64 (x' : Int), .int .u64 (l' : Int), .int .u8 (pr : Int), .int .u8 (tt : Int), .string D]
    have Hb4 := Lib.hid (after (after Hb2.out d3) (boxed w3 (.cells #[.bool v, .int .u64 (x : Int), .int .u64 (l : Int), .bool v', .int .u64 (x' : Int), .int .u64 (l' : Int), .int .u8 (pr : Int), .int .u8 (tt : Int), .string D] 26)))
    clear d3 HB2 Hb2
    go_upto_region 5 with fail
    generalize w3.alloc (.cells #[.bool v, .int .u64 (x : Int), .int .u64 (l : Int), .bool v', .int .u64 (x' : Int), .int .u64 (l' : Int), .int .u8 (pr : Int), .int .u8 (tt : Int), .string D] 26) = w4 at hB4 hD4 Hb4 ⊢
    generalize w3.heap.size = g2 at hD4 ⊢
    have a0 := hB4.cell 0
    have a1 := hB4.cell 1
    have a2 := hB4.cell 2
    have a3 := hB4.cell 3
    have a4 := hB4.cell 4
    have a5 := hB4.cell 5
    have a6 := hB4.cell 6
    have a7 := hB4.cell 7
    have a8 := hB4.cell 8
    simp at a0 a1 a2 a3 a4 a5 a6 a7 a8
    have b0 := hD4.cell 0
    have b1 := hD4.cell 1
    have b2 := hD4.cell 2
    have b3 := hD4.cell 3
    have b4 := hD4.cell 4
    have b5 := hD4.cell 5
    have b6 := hD4.cell 6
    have b7 := hD4.cell 7
    have b8 := hD4.cell 8
    simp at b0 b1 b2 b3 b4 b5 b6 b7 b8
    clear hB4 hD4
    go_wp2_with (go_at_call 9; (with_reducible refine (HWK.out _ Hb4.out).mono ?_); rintro r w5 ⟨rfl, d5⟩; have hb5 := after Hb4.out d5)
    go_ret
    exact ⟨rfl, hb5⟩
  · have q1 : (8192 : Int) < (s.size : Int) := by omega
    have hb0 := Below.refl w.heap.size w
    clear hbig
    go_enter Tryz.func4, Tryz.ntmps4
    go_wp2_with (go_at_call 9; (with_reducible refine (HWK.out _ hb0).mono ?_); rintro r w2 ⟨rfl, d2⟩)
    go_ret
    exact ⟨rfl, d2⟩
end Go.Proofs.YtomndcjgdfhmbaaGreatDoor

/- The frame of the six laws: what the rows list, as what the walks ask for. -/
namespace Go.Proofs.YtomndcjgdfhmbaaGreatDoor
open Go.ChangeShapes Go.WideShapes Go.ChangeAt Go.RowKit

theorem tab_of {P : Program} {W : World} {name : String} {k : IntKind} {zs : List Int} {g : Nat} {t e : TypeId} {n : Nat}
    (hg : P.globalNamed name = some g) (hty : (P.globals[g]?).map (·.type) = some t) (ht : P.underlying t = some (.array n e)) (he : P.underlying e = some (.int k)) (hce : P.cellsOf e = 1) (hct : P.cellsOf t = n)
    (h : Lib.VarReads P W name (Lib.tabData k zs)) : Lib.TabIs P W name k zs := by
  obtain ⟨g', t', cs, fuel, p, hg', ht', hvar, hd⟩ := h
  obtain rfl := Option.some.inj (hg.symm.trans hg')
  obtain rfl := Option.some.inj (hty.symm.trans ht')
  unfold Lib.TabIs
  rw [hvar, ← Lib.cells_of_tab ht he hce hct hd]
theorem iface_of {P : Program} {W : World} {name nm : String} {d : DataW Unit} {g : Nat} {t : TypeId} {ms : Array (String × TypeId)}
    (hg : P.globalNamed name = some g) (hty : (P.globals[g]?).map (·.type) = some t) (ht : P.underlying t = some (.interface ms))
    (h : Lib.VarReads P W name (.iface nm d)) : ∃ (tp : TypeId) (p : Value), W.cell? ⟨g, 0, none⟩ = some (.iface tp p) := by
  obtain ⟨g', t', cs, fuel, p, hg', ht', hvar, hd⟩ := h
  obtain rfl := Option.some.inj (hg.symm.trans hg')
  obtain rfl := Option.some.inj (hty.symm.trans ht')
  have hc := World.var?_cell hg hvar 0
  obtain ⟨l⟩ := cs
  cases fuel with
  | zero => simp [DataW.trod] at hd
  | succ fuel =>
    cases l with
    | nil => simp [DataW.trod, ht] at hd
    | cons x r =>
      cases r with
      | cons y r => simp [DataW.trod, ht] at hd
      | nil =>
        cases x
        case iface tp q => exact ⟨tp, q, by simpa using hc⟩
        all_goals simp [DataW.trod, ht] at hd

variable {H : Type} {enc : TypeId × Value → H}
/- The wrap for a row that lists variables and needs the world's shape too. -/
theorem of_change_and_shaped {a : Assume} {C : Checked} {os : Os} {f : FuncId} {fn : Func} {s : ChangeSpec} {conds : List PathCond} {apart fresh handsOn again : Bool} {X : World → Array Value → Prop}
    (hX : ∀ (w w' : World) (args : Array Value), w.heap = w'.heap → X w args → X w' args)
    (own : ownKnob C.prog.godebug = none) (started : os.Started) (noInit : C.prog.inits.idxOf? f = none) (hfn : C.prog.funcs[f]? = some fn)
    (witness : ∃ (w : World) (tape : Tape) (i : Input), w.os = os ∧ (w.forCall tape i).Shaped C.prog ∧ i.vars = [] ∧ Input.okWide C.prog (w.forCall tape i) .any w.heap.size f i ∧
      ((s.pre enc C.prog fn conds apart (w.forCall tape i).memory i.args ∧ X (w.forCall tape i).memory i.args) ∧ sizedMet enc C.prog fn (OpenSpec.ofChange s) apart (w.forCall tape i).memory i.args) ∧ a.holds C.prog (lone (Frame.enter C.prog f i.args .normal) [] (w.forCall tape i)))
    (contract : ∀ (W : World) (base : Nat) (args : Array Value) (ds gs : List (DataW H)) (before : List MemPlace),
      (∀ (j : Nat) t v, fn.params[j]? = some t → args[j]? = some v → Value.okWide C.prog W .any base t v) →
      DataW.Whole enc C.prog fn.params.toList s.vars apart W args.toList ds gs before →
      conds.all (PathCond.test C.prog ⟨fn.params.toList, ds, s.plain.varTypes C.prog, gs⟩) = true →
      X W args → W.ShapedOpen C.prog →
      Calls C.prog f args W fun e W' => ∃ v, e = .returned v ∧ s.post enc C.prog fn apart fresh handsOn again W args v W') :
    ReturnsInHanded a C os f .any (fun w args => (s.pre enc C.prog fn conds apart w args ∧ X w args) ∧ sizedMet enc C.prog fn (OpenSpec.ofChange s) apart w args) (s.post enc C.prog fn apart fresh handsOn again) := by
  refine returnsInHanded_of_calls own started noInit witness ?_
  intro w tape i _ hsh _ hok hpre _
  obtain ⟨_, _, _, fn', hfn', _, _, _, _, hval⟩ := hok
  have e : fn' = fn := Option.some.inj (hfn'.symm.trans hfn)
  subst e
  obtain ⟨⟨⟨ds, gs, before, hw, hc⟩, hx⟩, _⟩ := hpre
  have hw' := DataW.Whole.of_heap (w' := w.forCall tape i) (by rfl) hw
  refine (contract (w.forCall tape i) w.heap.size i.args ds gs before hval hw' hc (hX _ _ _ (by rfl) hx) hsh).mono fun e W' ⟨v, he, hp⟩ => ?_
  subst he
  exact ChangeSpec.post_blind hp

def seatLaid : List (String × DataW Unit) := Rows.ipWritesRow.laid
set_option maxRecDepth 100000 in
theorem env_of {W : World} (hL : laidMetH Tryz.prog seatLaid W) (hsh : W.ShapedOpen Tryz.prog) : Env W := by
  rw [MakeChecks.laidMetH_plain _ _ _ (by kernel_rfl)] at hL
  refine ⟨?_, ?_, ?_, ?_, ?_⟩
  · exact Go.Proofs.cell_of_shapedOpen_int (zero := #[.int .i64 0]) (t := 3) hsh (of_decide_eq_true (by kernel_rfl)) (by kernel_rfl) rfl (by kernel_rfl) (by kernel_rfl) Tryz.underlying3
  · have h : Lib.VarReads Tryz.prog W "internal/strconv.uint64pow10" (Lib.tabData .u64 Lib.pow10Tab) := Lib.laidMet.reads hL (.tail _ (.tail _ (.head _)))
    exact tab_of (g := 1) (t := 143) (e := 22) (n := 20) (by kernel_rfl) (by kernel_rfl) (by kernel_rfl) (by kernel_rfl) (by kernel_rfl) (by kernel_rfl) h
  · have h : Lib.VarReads Tryz.prog W "math/bits.deBruijn64tab" (Lib.tabData .u8 [0, 1, 56, 2, 57, 49, 28, 3, 61, 58, 42, 50, 38, 29, 17, 4, 62, 47, 59, 36, 45, 43, 51, 22, 53, 39, 33, 30, 24, 18, 12, 5, 63, 55, 48, 27, 60, 41, 37, 16, 46, 35, 44, 21, 52, 32, 23, 11, 54, 26, 40, 15, 34, 20, 31, 10, 25, 14, 19, 9, 13, 8, 7, 6]) := Lib.laidMet.reads hL (.tail _ (.head _))
    exact (tab_of (g := 5) (t := 161) (e := 5) (n := 64) (by kernel_rfl) (by kernel_rfl) (by kernel_rfl) (by kernel_rfl) (by kernel_rfl) (by kernel_rfl) h).cell (by kernel_rfl) 15 (by decide)
  · exact iface_of (g := 2) (t := 76) (by kernel_rfl) (by kernel_rfl) Tryz.underlying76 (Lib.laidMet.reads hL (.tail _ (.tail _ (.tail _ (.tail _ (.tail _ (.head _)))))))
  · exact iface_of (g := 3) (t := 76) (by kernel_rfl) (by kernel_rfl) Tryz.underlying76 (Lib.laidMet.reads hL (.tail _ (.tail _ (.tail _ (.tail _ (.head _))))))
theorem own : ownKnob Tryz.prog.godebug = none := by kernel_rfl
end Go.Proofs.YtomndcjgdfhmbaaGreatDoor
