/- Best. -/
import Derived.Test.YtbopmcdmahabbaaPaM
namespace Go.Proofs.Ytbopmcdmahabbaa
open Go.RowKit

def sc (p : Pth) : Nat := (F.add p.x ((F.mul c4 p.y).getD 0)).getD 0
def eighth (s : Nat) : Nat := (F.div s c8).getD 0
def plus (a b : Nat) : Nat := (F.add a b).getD 0
def flt (a b : Nat) : Bool := F.order a b == some .lt

/- What is reckoned of the paths is a number. -/
structure Fin (t : Tab) : Prop where
  sc : ∀ p ∈ t.l, ∃ mm, F.mul c4 p.y = some mm ∧ F.add p.x mm = some (sc p)
  div : ∀ p ∈ t.l, F.div (Go.Proofs.Ytbopmcdmahabbaa.sc p) c8 = some (eighth (Go.Proofs.Ytbopmcdmahabbaa.sc p))
  add : ∀ p ∈ t.l, ∀ a, (a = 0 ∨ ∃ q ∈ t.l, a = Go.Proofs.Ytbopmcdmahabbaa.sc q) → F.add a (eighth (Go.Proofs.Ytbopmcdmahabbaa.sc p)) = some (plus a (eighth (Go.Proofs.Ytbopmcdmahabbaa.sc p)))
  last : ∀ p ∈ t.l, p.last < 18446744073709551616

def pick (t : Tab) (now : Nat) (k : Nat) (p : Pth) (r : Option Nat × Nat) : Option Nat × Nat :=
  if there t p now && (r.1.isNone || flt (sc p) r.2) then (some k, sc p) else r

def bestTo (t : Tab) (now : Nat) : Nat → Option Nat × Nat
  | 0 => (none, 0)
  | k + 1 => match t.l[k]? with
    | some p => pick t now k p (bestTo t now k)
    | none => bestTo t now k

/- The path that is told: by its place. -/
def bestI (t : Tab) (now : Nat) : Option Nat :=
  match t.used with
  | none => (bestTo t now t.l.length).1
  | some e => match findI t.l e with
    | none => (bestTo t now t.l.length).1
    | some i => match t.l[i]? with
      | none => (bestTo t now t.l.length).1
      | some p => if there t p now && !flt (plus (bestTo t now t.l.length).2 (eighth (sc p))) (sc p) then some i else (bestTo t now t.l.length).1

def bptr (g : Nat) : Option Nat → Value
  | none => .pointer none
  | some i => .pointer (some ⟨g, i * 8, none⟩)

theorem bestTo_least (t : Tab) (now : Nat) : ∀ k, (bestTo t now k).2 = 0 ∨ ∃ q ∈ t.l, (bestTo t now k).2 = sc q := by
  intro k
  induction k with
  | zero => exact .inl rfl
  | succ k ih =>
    simp only [bestTo]
    cases h : t.l[k]? with
    | none => exact ih
    | some p =>
      simp only [pick]
      split
      · exact .inr ⟨p, List.mem_of_getElem? h, rfl⟩
      · exact ih

theorem bestTo_lt (t : Tab) (now : Nat) : ∀ k, k ≤ t.l.length → ∀ i, (bestTo t now k).1 = some i → i < t.l.length := by
  intro k
  induction k with
  | zero => intro _ i h; simp [bestTo] at h
  | succ k ih =>
    intro hk i
    simp only [bestTo]
    cases h : t.l[k]? with
    | none => exact ih (by omega) i
    | some p =>
      simp only [pick]
      split
      · intro h2
        have : k = i := by simpa using h2
        omega
      · exact ih (by omega) i

theorem bestI_lt (t : Tab) (now : Nat) (i : Nat) (h : bestI t now = some i) : i < t.l.length := by
  unfold bestI at h
  have hb := bestTo_lt t now t.l.length (Nat.le_refl _) i
  cases hu : t.used with
  | none => rw [hu] at h; exact hb h
  | some e =>
    rw [hu] at h
    simp only at h
    cases hf : findI t.l e with
    | none => rw [hf] at h; exact hb h
    | some j =>
      rw [hf] at h
      simp only at h
      have hj : j < t.l.length := (List.findIdx?_eq_some_iff_getElem.1 hf).1
      rw [List.getElem?_eq_getElem hj] at h
      simp only at h
      split at h
      · have : j = i := by simpa using h
        omega
      · exact hb h

theorem run_flt (a b : Nat) (t : TypeId) {P : Program} (w : World) : (binOp .lss t (.float .f64 a) (.float .f64 b)).run P w = .ok (.bool (flt a b)) w := by
  simp [binOp_float_cmp_lss, flt]

theorem bestTo_succ (t : Tab) (now k : Nat) {p : Pth} (hp : t.l[k]? = some p) : bestTo t now (k + 1) = pick t now k p (bestTo t now k) := by
  simp only [bestTo, hp]

section
variable {w : World} {b base cap m g : Nat} {U : Option Addr} {t : Tab}

theorem score_at (h : TM w b base (some ⟨g, 0, none⟩) cap m U t) (fin : Fin t) (now : Nat) (hn : now < 18446744073709551616) {i : Nat} {p : Pth} (hp : t.l[i]? = some p) (b1 : Bool) (hb : there t p now = b1) :
    Calls Try.prog 29 #[.pointer (some ⟨b, 0, none⟩), .pointer (some ⟨g, i * 8, none⟩), .int .u64 (now : Int)] w fun r w' => r = .returned (.tuple #[.float .f64 (if b1 then sc p else 0), .bool b1]) ∧ ∃ n, w.drewN n = w' := by
  have hm := List.mem_of_getElem? hp
  subst hb
  cases ht : there t p now with
  | false => exact score_no h now hn hp (fin.last p hm) ht
  | true =>
    obtain ⟨mm, h1, h2⟩ := fin.sc p hm
    exact score_yes h now hn hp (fin.last p hm) ht h1 h2
end

theorem neq66 (U : Option Addr) (w : World) : (binOp .neq 66 (.pointer U) (.pointer none)).run Try.prog w = .ok (.bool U.isSome) w := by
  cases U with
  | none => kernel_rfl
  | some a => kernel_rfl

/- What Best leaves. -/
def Tab.best (t : Tab) (now : Nat) : Tab := { t with used := (bestI t now).bind fun i => (t.l[i]?).map (·.e) }
def bestE (t : Tab) (now : Nat) : Option End := (bestI t now).bind fun i => (t.l[i]?).map (·.e)
def End.zero : End := ⟨false, 0, 0, 0⟩
def bestV (t : Tab) (now : Nat) : Value := .tuple #[.agg ((bestE t now).getD End.zero).cells, .bool (bestE t now).isSome]
def Bested (b base cap m : Nat) (A : Option Addr) (t : Tab) (now : Nat) (w : World) (r : Ending) (w' : World) : Prop :=
  r = .returned (bestV t now) ∧ (∃ U', TM w' b base A cap m U' (t.best now) ∧ (∀ u, U' = some u → w.heap.size ≤ u.block)) ∧ Keeps (fun k => k = b) w w'

theorem TM.setUsed {w : World} {b base cap m : Nat} {A U : Option Addr} {t : Tab} (h : TM w b base A cap m U t) (U' : Option Addr) (o : Option End) (ho : match o with | none => U' = none | some e => ∃ u, U' = some ⟨u, 0, none⟩ ∧ Blk w u 35 e.cells) :
    TM (w.setCell ⟨b, 6, none⟩ (.pointer U')) b base A cap m U' { t with used := o } := by
  have hk : Keeps (fun k => k = b) w (w.setCell ⟨b, 6, none⟩ (.pointer U')) := (Keeps.refl (fun k => k = b) w).setCell (p := ⟨b, 6, none⟩) (.inl rfl) _
  refine ⟨⟨h.lim.wait0, h.lim.wait1, h.lim.life0, h.lim.life1, h.lim.loss0, h.lim.loss1, h.lim.most0, h.lim.most1, h.lim.len⟩, h.blk.set_ 6 _, h.row.keep hk (fun g hg => (h.own_sep hg).1), h.map.keep hk (fun e => h.bm e.symm), ?_⟩
  cases o with
  | none => exact ho
  | some e =>
    obtain ⟨u, hu, hb⟩ := ho
    exact ⟨u, hu, hb.keep hk (fun e => Blk.ne_ hb h.blk (by decide) e)⟩

def BLoop (t : Tab) (now g : Nat) (W0 : World) (v6 v7 v23 : Value) (wr : World) : Prop :=
  ∃ k n : Nat, k ≤ t.l.length ∧ v23 = .int .i64 (k : Int) ∧ v6 = bptr g (bestTo t now k).1 ∧ v7 = .float .f64 (bestTo t now k).2 ∧ wr = W0.drewN n

set_option maxHeartbeats 2000000 in
set_option maxRecDepth 100000 in
theorem best_any {w : World} {b base cap m g : Nat} {U : Option Addr} {t : Tab} (h : TM w b base (some ⟨g, 0, none⟩) cap m U t) (fin : Fin t) (now : Nat) (hn : now < 18446744073709551616) :
    Calls Try.prog 15 #[.pointer (some ⟨b, 0, none⟩), .int .u64 (now : Int)] w (Bested b base cap m (some ⟨g, 0, none⟩) t now w) := by
  have h1 := h.alloc (.cells #[.bool false, .int .u64 0, .int .u64 0, .int .u16 0] 35)
  obtain ⟨c0, c1, c2, c3, c4', c5, c6⟩ := h1.cells
  have hl := h.lim.len
  have hl1 := h.lim.most1
  have hq66 := neq66 U
  clear c0 c1 c2 c3
  go_enter Try.func15, Try.ntmps15
  go_wp2_with (go_at_call 24; refine (tnone_some c5).mono ?_; rintro r w' ⟨rfl, rfl⟩)
  go_loopw [6, 7, 23] (fun v6 v7 v23 wr => BLoop t now g (w.alloc (.cells #[.bool false, .int .u64 0, .int .u64 0, .int .u16 0] 35)) v6 v7 v23 wr) (fun _ _ i _ => t.l.length - (intOf i).toNat)
  case atStart => exact ⟨0, 0, Nat.zero_le _, rfl, rfl, rfl, rfl⟩
  case round =>
    obtain ⟨k, n, hk, rfl, rfl, rfl, rfl⟩ := hrel
    by_cases hlt : k < t.l.length
    · obtain ⟨p, hp⟩ : ∃ p, t.l[k]? = some p := ⟨t.l[k], List.getElem?_eq_getElem hlt⟩
      have hsucc := bestTo_succ t now k hp
      have Hp := Lib.hid hp
      clear hp
      generalize hr : bestTo t now k = r at hsucc
      obtain ⟨o, least⟩ := r
      have hk0 : (0 : Int) ≤ (k : Int) := by omega
      have Hr := Lib.hid hr
      clear hr
      cases hth : there t p now with
      | false =>
        have hpk : pick t now k p (o, least) = (o, least) := by simp [pick, hth]
        rw [hpk] at hsucc
        have Hs := Lib.hid hsucc
        have Hth := Lib.hid hth
        clear hpk hsucc hth
        cases o with
        | none =>
          go_wp2_with (go_at_call 29; refine (score_at (h1.drewN _) fin now hn Hp.out false Hth.out).mono ?_; rintro r w' ⟨rfl, q, rfl⟩)
          go_roundw
          case rel => exact ⟨k + 1, _, by omega, by go_num, by rw [Hs.out], by rw [Hs.out], rfl⟩
          case measure => simp [intOf]; omega
        | some j =>
          go_wp2_with (go_at_call 29; refine (score_at (h1.drewN _) fin now hn Hp.out false Hth.out).mono ?_; rintro r w' ⟨rfl, q, rfl⟩)
          go_roundw
          case rel => exact ⟨k + 1, _, by omega, by go_num, by rw [Hs.out], by rw [Hs.out], rfl⟩
          case measure => simp [intOf]; omega
      | true =>
        cases o with
        | none =>
          have hb0 : bptr g none = .pointer none := rfl
          have hpk : pick t now k p (none, least) = (some k, sc p) := by simp [pick, hth]
          rw [hpk] at hsucc
          have Hs := Lib.hid hsucc
          have Hth := Lib.hid hth
          clear hpk hsucc hth
          go_wp2_with (go_at_call 29; refine (score_at (h1.drewN _) fin now hn Hp.out true Hth.out).mono ?_; rintro r w' ⟨rfl, q, rfl⟩)
          go_roundw
          case rel => exact ⟨k + 1, _, by omega, by go_num, by rw [Hs.out]; rfl, by rw [Hs.out], rfl⟩
          case measure => simp [intOf]; omega
        | some j =>
          have hb0 : bptr g (some j) = .pointer (some ⟨g, j * 8, none⟩) := rfl
          cases hfl : flt (sc p) least with
          | true =>
            have hfl2 : (FloatKind.f64.format.order (sc p) least == some Ordering.lt) = true := hfl
            have hpk : pick t now k p (some j, least) = (some k, sc p) := by simp [pick, hth, hfl]
            rw [hpk] at hsucc
            have Hs := Lib.hid hsucc
            have Hth := Lib.hid hth
            clear hpk hsucc hth
            go_wp2_with (go_at_call 29; refine (score_at (h1.drewN _) fin now hn Hp.out true Hth.out).mono ?_; rintro r w' ⟨rfl, q, rfl⟩)
            go_roundw
            case rel => exact ⟨k + 1, _, by omega, by go_num, by rw [Hs.out]; rfl, by rw [Hs.out], rfl⟩
            case measure => simp [intOf]; omega
          | false =>
            have hfl2 : (FloatKind.f64.format.order (sc p) least == some Ordering.lt) = false := hfl
            have hpk : pick t now k p (some j, least) = (some j, least) := by simp [pick, hfl]
            rw [hpk] at hsucc
            have Hs := Lib.hid hsucc
            have Hth := Lib.hid hth
            clear hpk hsucc hth
            go_wp2_with (go_at_call 29; refine (score_at (h1.drewN _) fin now hn Hp.out true Hth.out).mono ?_; rintro r w' ⟨rfl, q, rfl⟩)
            go_roundw
            case rel => exact ⟨k + 1, _, by omega, by go_num, by rw [Hs.out]; rfl, by rw [Hs.out], rfl⟩
            case measure => simp [intOf]; omega
    · obtain rfl : k = t.l.length := by omega
      have hbest : bestI t now = match t.used with
        | none => (bestTo t now t.l.length).1
        | some e => match findI t.l e with
          | none => (bestTo t now t.l.length).1
          | some i => match t.l[i]? with
            | none => (bestTo t now t.l.length).1
            | some p => if there t p now && !flt (plus (bestTo t now t.l.length).2 (eighth (sc p))) (sc p) then some i else (bestTo t now t.l.length).1 := rfl
      have hle := bestTo_least t now t.l.length
      have hu := h.used
      generalize hr : bestTo t now t.l.length = r at hbest hle
      obtain ⟨o, least⟩ := r
      go_upto_if 60 with fail
      go_cut [6] (fun v6 wx => v6 = bptr g (bestI t now) ∧ Below (w.heap.size + 1) (w.alloc (.cells #[.bool false, .int .u64 0, .int .u64 0, .int .u16 0] 35)) wx)
      case first =>
        have hb0 : Below (w.heap.size + 1) (w.alloc (.cells #[.bool false, .int .u64 0, .int .u64 0, .int .u16 0] 35)) ((w.alloc (.cells #[.bool false, .int .u64 0, .int .u64 0, .int .u16 0] 35)).drewN n) := ⟨rfl, rfl, rfl, Nat.le_refl _, fun _ _ => rfl⟩
        cases hus : t.used with
        | none =>
          rw [hus] at hu hbest
          simp only at hu hbest
          subst hu
          have Hb := Lib.hid hbest
          clear hbest hle hr hus
          go_wp2_with fail
          go_meet
          exact ⟨by rw [Hb.out], hb0⟩
        | some e =>
          rw [hus] at hu hbest
          simp only at hu hbest
          obtain ⟨u, rfl, hub⟩ := hu
          have hub1 := hub.alloc (.cells #[.bool false, .int .u64 0, .int .u64 0, .int .u16 0] 35)
          have x0 := hub1.cell 0
          have x1 := hub1.cell 1
          have x2 := hub1.cell 2
          have x3 := hub1.cell 3
          simp [End.cells] at x0 x1 x2 x3
          cases hf : findI t.l e with
          | none =>
            rw [hf] at hbest
            simp only at hbest
            have hfd := find_no (h1.drewN n) e hf
            rw [cellsE] at hfd
            have Hfd := Lib.hid hfd
            have Hb := Lib.hid hbest
            clear hbest hle hr hus hf hfd
            go_wp2_with (first | (go_at_call 25; refine Hfd.out.mono ?_; rintro r w2 ⟨rfl, hb2⟩) | (go_at_call 29; refine (score_nil _ _ _).mono ?_; rintro r w' ⟨rfl, q, rfl⟩))
            go_meet
            have hb3 := hb0.trans (hb2.mono (by simp))
            exact ⟨by rw [Hb.out], ⟨hb3.os, hb3.tape, hb3.output, hb3.size, hb3.block⟩⟩
          | some i =>
            have hil : i < t.l.length := (List.findIdx?_eq_some_iff_getElem.1 hf).1
            obtain ⟨p, hp⟩ : ∃ p, t.l[i]? = some p := ⟨t.l[i], List.getElem?_eq_getElem hil⟩
            rw [hf] at hbest
            simp only [hp] at hbest
            have hfd := find_yes (h1.drewN n) e hf rfl
            rw [cellsE] at hfd
            have Hfd := Lib.hid hfd
            have hmem := List.mem_of_getElem? hp
            cases hth : there t p now with
            | false =>
              simp only [hth, Bool.false_and, Bool.false_eq_true, if_false] at hbest
              have Hb := Lib.hid hbest
              have Hp := Lib.hid hp
              have Hth := Lib.hid hth
              clear hbest hle hr hus hf hfd hp hth hmem
              go_wp2_with (first | (go_at_call 25; refine Hfd.out.mono ?_; rintro r w2 ⟨rfl, hb2⟩; have h2 := (h1.drewN n).below hb2) | (go_at_call 29; refine (score_at h2 fin now hn Hp.out false Hth.out).mono ?_; rintro r w' ⟨rfl, q, rfl⟩))
              go_meet
              have hb3 := hb0.trans (hb2.mono (by simp))
              exact ⟨by rw [Hb.out], ⟨hb3.os, hb3.tape, hb3.output, hb3.size, hb3.block⟩⟩
            | true =>
              have hdv := fin.div p hmem
              have had := fin.add p hmem least hle
              have r1 := fun (w : World) => run_fquo (P := Try.prog) w 46 hdv
              have r2 := fun (w : World) => run_fadd (P := Try.prog) w 46 had
              cases hfl : flt (plus least (eighth (sc p))) (sc p) with
              | true =>
                have hfl2 : (FloatKind.f64.format.order (plus least (eighth (sc p))) (sc p) == some Ordering.lt) = true := hfl
                simp only [hth, hfl, Bool.true_and, Bool.not_true, Bool.false_eq_true, if_false] at hbest
                have Hb := Lib.hid hbest
                have Hp := Lib.hid hp
                have Hth := Lib.hid hth
                clear hbest hle hr hus hf hfd hp hth hmem hdv had hfl
                go_wp2_with (first | (go_at_call 25; refine Hfd.out.mono ?_; rintro r w2 ⟨rfl, hb2⟩; have h2 := (h1.drewN n).below hb2) | (go_at_call 29; refine (score_at h2 fin now hn Hp.out true Hth.out).mono ?_; rintro r w' ⟨rfl, q, rfl⟩))
                go_meet
                have hb3 := hb0.trans (hb2.mono (by simp))
                exact ⟨by rw [Hb.out], ⟨hb3.os, hb3.tape, hb3.output, hb3.size, hb3.block⟩⟩
              | false =>
                have hfl2 : (FloatKind.f64.format.order (plus least (eighth (sc p))) (sc p) == some Ordering.lt) = false := hfl
                simp only [hth, hfl, Bool.true_and, Bool.not_false, if_true] at hbest
                have Hb := Lib.hid hbest
                have Hp := Lib.hid hp
                have Hth := Lib.hid hth
                clear hbest hle hr hus hf hfd hp hth hmem hdv had hfl
                go_wp2_with (first | (go_at_call 25; refine Hfd.out.mono ?_; rintro r w2 ⟨rfl, hb2⟩; have h2 := (h1.drewN n).below hb2) | (go_at_call 29; refine (score_at h2 fin now hn Hp.out true Hth.out).mono ?_; rintro r w' ⟨rfl, q, rfl⟩))
                go_meet
                have hb3 := hb0.trans (hb2.mono (by simp))
                exact ⟨by rw [Hb.out]; rfl, ⟨hb3.os, hb3.tape, hb3.output, hb3.size, hb3.block⟩⟩
      case rest =>
        obtain ⟨rfl, hbc⟩ := hcut
        have h5 : TM wc b base (some ⟨g, 0, none⟩) cap m U t := h1.below (by simpa using hbc)
        have f6 := h5.blk.frozen 6
        have y6 := h5.cells.2.2.2.2.2.2
        have hR := (Blk.new w 35 #[.bool false, .int .u64 0, .int .u64 0, .int .u16 0]).below hbc (by omega)
        have r0 := hR.cell 0
        have r1 := hR.cell 1
        have r2 := hR.cell 2
        have r3 := hR.cell 3
        simp at r0 r1 r2 r3
        have g0 := hR.frozen 0
        have g1 := hR.frozen 1
        have g2 := hR.frozen 2
        have g3 := hR.frozen 3
        have hbw := h.blk.lt
        have hbne : b ≠ w.heap.size := by omega
        have hbne2 : w.heap.size ≠ b := by omega
        have hblt := h5.blk.lt
        have hbne3 : b ≠ wc.heap.size := by omega
        have hbne4 : wc.heap.size ≠ b := by omega
        have hRlt := hR.lt
        clear hq66 hr hle
        cases hbi : bestI t now with
        | none =>
          have hbp : bptr g none = .pointer none := rfl
          have Hbi := Lib.hid hbi
          clear hbi hbest
          go_wp2_with fail
          have hE : bestE t now = none := by unfold bestE; rw [Hbi.out]; rfl
          have hT : t.best now = { t with used := none } := by unfold Tab.best; rw [Hbi.out]; rfl
          have h6 := h5.setUsed none none rfl
          have hRf := ((((hR.far (p := ⟨b, 6, none⟩) hbne2 (.pointer none)).set_ 0 (.bool false)).set_ 1 (.int .u64 0)).set_ 2 (.int .u64 0)).set_ 3 (.int .u16 0)
          have z0 := hRf.cell 0
          have z1 := hRf.cell 1
          have z2 := hRf.cell 2
          have z3 := hRf.cell 3
          simp only [List.setIfInBounds_toArray] at z0 z1 z2 z3
          refine bodyPost_ret (v := .tuple #[.agg #[.bool false, .int .u64 0, .int .u64 0, .int .u16 0], .bool false]) (by simp [results, Try.results15, go_sem, z0, z1, z2, z3]) rfl ⟨by unfold bestV; rw [hE]; rfl, ⟨none, ?_, by simp⟩, ?_⟩
          · rw [hT]
            refine h6.keep (S := fun k => k = w.heap.size) (((((Keeps.refl (fun k => k = w.heap.size) _).setCell (.inl rfl) _).setCell (.inl rfl) _).setCell (.inl rfl) _).setCell (.inl rfl) _) hbne ?_ ?_ (by simp)
            · have := h.map.lt; omega
            · intro k hk; have := (h.own_lt k hk).2; omega
          · have k1 : Keeps (fun k => k = b) w wc := ((Keeps.refl _ w).alloc _).trans (Keeps.of_below hbc (fun k hk _ => by simpa using hk))
            exact ((((k1.setCell (.inl rfl) _).setCell (.inr (Nat.le_refl _)) _).setCell (.inr (Nat.le_refl _)) _).setCell (.inr (Nat.le_refl _)) _).setCell (.inr (Nat.le_refl _)) _
        | some i =>
          have hbp : bptr g (some i) = .pointer (some ⟨g, i * 8, none⟩) := rfl
          have hil := bestI_lt t now i hbi
          obtain ⟨p, hp⟩ : ∃ p, t.l[i]? = some p := ⟨t.l[i], List.getElem?_eq_getElem hil⟩
          obtain ⟨g', hg', _, hg2, hgc⟩ := h5.row.at_ hp
          obtain rfl : g = g' := by injection hg' with hg'; injection hg'
          have q0 := hgc 0 (by omega)
          have q1 := hgc 1 (by omega)
          have q2 := hgc 2 (by omega)
          have q3 := hgc 3 (by omega)
          simp [Pth.cells] at q0 q1 q2 q3
          have Hbi := Lib.hid hbi
          have Hp := Lib.hid hp
          clear hbi hbest hgc hg' hp
          go_wp2_with fail
          have hE : bestE t now = some p.e := by unfold bestE; rw [Hbi.out]; simp [Hp.out]
          have hT : t.best now = { t with used := some p.e } := by unfold Tab.best; rw [Hbi.out]; simp [Hp.out]
          generalize hob : (Obj.cells #[Value.bool p.e.v6, .int .u64 (p.e.hi : Int), .int .u64 (p.e.lo : Int), .int .u16 (p.e.port : Int)] 35) = ob
          have hRf := (((((hR.far (p := ⟨b, 6, none⟩) hbne2 (.pointer none)).far (p := ⟨b, 6, none⟩) hbne2 (.pointer (some ⟨wc.heap.size, 0, none⟩))).set_ 0 (.bool p.e.v6)).set_ 1 (.int .u64 (p.e.hi : Int))).set_ 2 (.int .u64 (p.e.lo : Int))).set_ 3 (.int .u16 (p.e.port : Int))
          have hRg := hRf.alloc ob
          have z0 := hRg.cell 0
          have z1 := hRg.cell 1
          have z2 := hRg.cell 2
          have z3 := hRg.cell 3
          simp only [List.setIfInBounds_toArray] at z0 z1 z2 z3
          have hB1 := (((((((h5.blk.set_ 6 (.pointer none)).set_ 6 (.pointer (some ⟨wc.heap.size, 0, none⟩))).far (p := ⟨w.heap.size, 0, none⟩) hbne (.bool p.e.v6)).far (p := ⟨w.heap.size, 1, none⟩) hbne (.int .u64 (p.e.hi : Int))).far (p := ⟨w.heap.size, 2, none⟩) hbne (.int .u64 (p.e.lo : Int))).far (p := ⟨w.heap.size, 3, none⟩) hbne (.int .u16 (p.e.port : Int))).alloc ob)
          have kk := ((((((((Keeps.refl (fun k => k = b ∨ k = w.heap.size) wc).setCell (p := ⟨b, 6, none⟩) (.inl (.inl rfl)) (.pointer none)).setCell (p := ⟨b, 6, none⟩) (.inl (.inl rfl)) (.pointer (some ⟨wc.heap.size, 0, none⟩))).setCell (p := ⟨w.heap.size, 0, none⟩) (.inl (.inr rfl)) (.bool p.e.v6)).setCell (p := ⟨w.heap.size, 1, none⟩) (.inl (.inr rfl)) (.int .u64 (p.e.hi : Int))).setCell (p := ⟨w.heap.size, 2, none⟩) (.inl (.inr rfl)) (.int .u64 (p.e.lo : Int))).setCell (p := ⟨w.heap.size, 3, none⟩) (.inl (.inr rfl)) (.int .u16 (p.e.port : Int))).alloc ob)
          refine bodyPost_ret (v := .tuple #[.agg #[.bool p.e.v6, .int .u64 (p.e.hi : Int), .int .u64 (p.e.lo : Int), .int .u16 (p.e.port : Int)], .bool true]) (by simp [results, Try.results15, go_sem, z0, z1, z2, z3]) rfl ⟨by unfold bestV; rw [hE]; rfl, ⟨some ⟨wc.heap.size, 0, none⟩, ?_, ?_⟩, ?_⟩
          · rw [hT]
            refine ⟨⟨h.lim.wait0, h.lim.wait1, h.lim.life0, h.lim.life1, h.lim.loss0, h.lim.loss1, h.lim.most0, h.lim.most1, h.lim.len⟩, ?_, ?_, ?_, ⟨wc.heap.size, rfl, ?_⟩⟩
            · simpa using hB1
            · exact h5.row.keep kk (fun k hk => by have := h5.own_sep hk; have := (h.own_lt k hk).2; omega)
            · exact h5.map.keep kk (by have := h.map.lt; have := h5.bm; omega)
            · have hnew := Blk.new ((((((wc.setCell ⟨b, 6, none⟩ (.pointer none)).setCell ⟨b, 6, none⟩ (.pointer (some ⟨wc.heap.size, 0, none⟩))).setCell ⟨w.heap.size, 0, none⟩ (.bool p.e.v6)).setCell ⟨w.heap.size, 1, none⟩ (.int .u64 (p.e.hi : Int))).setCell ⟨w.heap.size, 2, none⟩ (.int .u64 (p.e.lo : Int))).setCell ⟨w.heap.size, 3, none⟩ (.int .u16 (p.e.port : Int))) 35 p.e.cells
              simp only [World.size_setCell] at hnew
              rw [← hob]
              exact hnew
          · intro u hu
            injection hu with hu
            subst hu
            show w.heap.size ≤ wc.heap.size
            omega
          · have k1 : Keeps (fun k => k = b) w wc := ((Keeps.refl _ w).alloc _).trans (Keeps.of_below hbc (fun k hk _ => by simpa using hk))
            exact ((((((k1.setCell (.inl rfl) _).setCell (.inl rfl) _).setCell (.inr (Nat.le_refl _)) _).setCell (.inr (Nat.le_refl _)) _).setCell (.inr (Nat.le_refl _)) _).setCell (.inr (Nat.le_refl _)) _).alloc _

end Go.Proofs.Ytbopmcdmahabbaa
