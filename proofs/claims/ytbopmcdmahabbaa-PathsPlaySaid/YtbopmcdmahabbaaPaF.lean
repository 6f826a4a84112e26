/- waits, quiet. -/
import Derived.Test.YtbopmcdmahabbaaPaE
namespace Go.Proofs.Ytbopmcdmahabbaa
open Go.RowKit

/- What holds of the pings that wait. -/
structure Tab.Ok (t : Tab) : Prop where
  born : ∀ x ∈ t.pings, x.born < t.clock
  nodup : (t.pings.map (·.born)).Nodup
  keys : ∀ x ∈ t.pings, ∀ y ∈ t.pings, x.tx = y.tx → x = y
  ends : ∀ x ∈ t.pings, ∀ y ∈ t.pings, x.e = y.e → x = y
  there : ∀ x ∈ t.pings, ∃ p ∈ t.l, p.e = x.e

theorem se_mem {t : Tab} {x : SE} (h : x ∈ t.pings.map Ent.se) : ∃ y ∈ t.pings, x = y.se := by
  obtain ⟨y, hy, rfl⟩ := List.mem_map.1 h
  exact ⟨y, hy, rfl⟩

theorem Tab.Ok.hold {t : Tab} (h : t.Ok) : ∀ x ∈ t.pings.map Ent.se, x.born < t.clock := by
  intro x hx
  obtain ⟨y, hy, rfl⟩ := se_mem hx
  exact h.born y hy
theorem Tab.Ok.nd {t : Tab} (h : t.Ok) : ((t.pings.map Ent.se).map (·.born)).Nodup := by
  have e : (t.pings.map Ent.se).map (·.born) = t.pings.map (·.born) := by simp [Ent.se, Function.comp_def]
  rw [e]
  exact h.nodup

theorem inj_of_nodup {L : List Ent} (h : (L.map (·.born)).Nodup) {x y : Ent} (hx : x ∈ L) (hy : y ∈ L) (e : x.born = y.born) : x = y := by
  induction L with
  | nil => cases hx
  | cons z L ih =>
    simp only [List.map_cons, List.nodup_cons] at h
    rcases List.mem_cons.1 hx with h1 | h1
    · rcases List.mem_cons.1 hy with h2 | h2
      · rw [h1, h2]
      · exact absurd (by rw [← h1, e]; exact List.mem_map_of_mem h2) h.1
    · rcases List.mem_cons.1 hy with h2 | h2
      · exact absurd (by rw [← h2, ← e]; exact List.mem_map_of_mem h1) h.1
      · exact ih h.2 h1 h2

/- What waits answers: the tx of one that goes to e; none only where there is none. -/
def Waited (t : Tab) (e : End) (w : World) (r : Ending) (w' : World) : Prop :=
  ((∃ x ∈ t.pings, x.e.eqb e = true ∧ r = .returned (.tuple #[.string x.tx, .bool true])) ∨ ((∀ x ∈ t.pings, x.e.eqb e = false) ∧ r = .returned (.tuple #[.string ⟨#[]⟩, .bool false]))) ∧ Below w.heap.size w w'

set_option maxHeartbeats 1000000 in
set_option maxRecDepth 100000 in
theorem waits_any {w : World} {b base cap m : Nat} {A U : Option Addr} {t : Tab} (h : TM w b base A cap m U t) (ok : t.Ok) (e : End) :
    Calls Try.prog 42 #[.pointer (some ⟨b, 0, none⟩), .agg e.cells] w (Waited t e w) := by
  have h1 := h.alloc (.cells #[.bool e.v6, .int .u64 (e.hi : Int), .int .u64 (e.lo : Int), .int .u16 (e.port : Int)] 35)
  have hE := Blk.new w 35 #[.bool e.v6, .int .u64 (e.hi : Int), .int .u64 (e.lo : Int), .int .u16 (e.port : Int)]
  obtain ⟨c0, c1, c2, c3, c4, c5, c6⟩ := h1.cells
  have hrg := run_range_sm (P := Try.prog) Try.underlying65 h1.map
  have hI := iter_new (w.alloc (.cells #[.bool e.v6, .int .u64 (e.hi : Int), .int .u64 (e.lo : Int), .int .u16 (e.port : Int)] 35)) m t.clock
  have HI := Lib.hid hI
  have HE := Lib.hid hE
  have hm1 := h.map.lt
  clear hI hE
  rw [cellsE]
  simp only [World.size_alloc] at hrg
  go_enter Try.func42, Try.ntmps42
  go_wp2_with fail
  go_loopw [13] (fun _ wr => ∃ (seen : Array Nat) (last : Nat), Iter wr (w.heap.size + 1) m t.clock seen last ∧ t.clock ≤ last ∧ (∀ x ∈ t.pings, x.born ∈ seen → x.e.eqb e = false) ∧ Below (w.heap.size + 1) (w.alloc (.cells #[.bool e.v6, .int .u64 (e.hi : Int), .int .u64 (e.lo : Int), .int .u16 (e.port : Int)] 35)) wr)
    (fun _ wr => unseen (t.pings.map Ent.se) (w.heap.size + 1) wr)
  case atStart =>
    have hI := HI.out
    simp only [World.size_alloc] at hI
    exact ⟨#[], t.clock, hI, Nat.le_refl _, by simp, (Below.refl _ _).alloc (by simp) _⟩
  case round =>
    obtain ⟨seen, last, hit, hle, hno, hb⟩ := hrel
    have hm : MBlk wr m (t.pings.map Ent.se) t.clock := h1.map.below hb (by omega)
    have hB := HE.out.below hb (by omega)
    have hbw : Below w.heap.size w wr := ((Below.refl _ w).alloc (Nat.le_refl _) _).trans (hb.mono (by omega))
    have e0 := hB.cell 0
    have e1 := hB.cell 1
    have e2 := hB.cell 2
    have e3 := hB.cell 3
    simp at e0 e1 e2 e3
    have Hit := Lib.hid hit
    have Hno := Lib.hid hno
    rcases next_sm (P := Try.prog) 0 hit hm ok.hold hle ok.nd with ⟨hall, hrun⟩ | ⟨x, hx, hns, W, hrun, hent, hk, hit2, hm2⟩
    · have Hall := Lib.hid hall
      clear hit hno hall
      go_wp2_with fail
      go_ret2
      exact ⟨.inr ⟨fun x hx => Hno.out x hx (Hall.out x.se (List.mem_map_of_mem hx)), rfl⟩, hbw⟩
    · clear hit hno
      obtain ⟨y, hy, rfl⟩ := se_mem hx
      have Hns := Lib.hid hns
      have Hit2 := Lib.hid hit2
      have Hx := Lib.hid hx
      have Hm := Lib.hid hm
      clear hns hit2 hx
      unfold Ent.se pingVal at hrun hent
      simp only at hrun hent
      have hB2 := hB.keep hk (by omega)
      have g0 := hB2.cell 0
      have g1 := hB2.cell 1
      have g2 := hB2.cell 2
      have g3 := hB2.cell 3
      simp at g0 g1 g2 g3
      have hlt := hB2.lt
      have hq := eq35 y.e e
      have hbW : Below w.heap.size w W := hbw.trans (hk.below (by rintro k rfl; omega) hbw.size)
      have hbW1 := hb.trans (hk.below (B := w.heap.size + 1) (by rintro k rfl; omega) (by have := hB.lt; omega))
      cases hye : y.e.eqb e with
      | true =>
        rw [hye] at hq
        have Hye := Lib.hid hye
        clear hye
        go_wp2_with fail
        go_ret2
        exact ⟨.inl ⟨y, hy, Hye.out, rfl⟩, hbW.alloc hbW.size _⟩
      | false =>
        rw [hye] at hq
        have Hye := Lib.hid hye
        clear hye
        have hL := unseen_lt Hx.out Hns.out
        have hu1 := unseen_eq Hit.out (t.pings.map Ent.se)
        have hit3 : Iter (W.alloc (.cells #[.bool y.e.v6, .int .u64 (y.e.hi : Int), .int .u64 (y.e.lo : Int), .int .u16 (y.e.port : Int), .int .u64 (y.at_ : Int)] 73)) (w.heap.size + 1) m t.clock (seen.push y.born) t.clock := (Below.heap_alloc W _ _ Hit2.out.lt).trans Hit2.out
        have hu2 := unseen_eq hit3 (t.pings.map Ent.se)
        have HL := Lib.hid hL
        have Hu1 := Lib.hid hu1
        have Hu2 := Lib.hid hu2
        have Hit3 := Lib.hid hit3
        clear hL hu1 hu2 hit3
        go_wp2_with fail
        go_roundw
        case rel =>
          refine ⟨_, _, Hit3.out, Nat.le_refl _, fun x hx hb5 => ?_, hbW1.alloc (by omega) _⟩
          rcases Array.mem_push.1 hb5 with h5 | h5
          · exact Hno.out x hx h5
          · have : x = y := by
              have hnd := ok.nodup
              exact inj_of_nodup hnd hx hy h5
            rw [this]
            exact Hye.out
        case measure =>
          rw [Hu1.out, Hu2.out]
          exact HL.out

def Tab.quiet (t : Tab) (e : End) : Tab := { t with pings := t.pings.filter fun x => !x.e.eqb e }

theorem erase_filter (p : Ent → Bool) : ∀ (L : List Ent) (j : Nat) (x : Ent), L[j]? = some x → p x = true → (∀ i y, L[i]? = some y → p y = true → i = j) → L.eraseIdx j = L.filter fun y => !p y := by
  intro L
  induction L with
  | nil => intro j x h; simp at h
  | cons z L ih =>
    intro j x hx hp hu
    cases j with
    | zero =>
      have hz : z = x := by simpa using hx
      subst hz
      have hno : ∀ y ∈ L, p y = false := by
        intro y hy
        obtain ⟨i, hi⟩ := List.getElem?_of_mem hy
        cases h : p y with
        | false => rfl
        | true => exact absurd (hu (i + 1) y (by simpa using hi) h) (by omega)
      simp only [List.eraseIdx_zero, List.tail_cons, List.filter_cons, hp, Bool.not_true, Bool.false_eq_true, if_false]
      exact (List.filter_eq_self.2 (fun y hy => by simp [hno y hy])).symm
    | succ j =>
      have hz : p z = false := by
        cases h : p z with
        | false => rfl
        | true => exact absurd (hu 0 z rfl h) (by omega)
      simp only [List.eraseIdx_cons_succ, List.filter_cons, hz, Bool.not_false, if_true]
      rw [ih j x (by simpa using hx) hp (fun i y hi hy => by have := hu (i + 1) y (by simpa using hi) hy; omega)]

theorem nodup_at {L : List Ent} (h : (L.map (·.born)).Nodup) {i j : Nat} {x : Ent} (hi : L[i]? = some x) (hj : L[j]? = some x) : i = j := by
  have h1 : (L.map (·.born))[i]? = some x.born := by rw [List.getElem?_map, hi]; rfl
  have h2 : (L.map (·.born))[j]? = some x.born := by rw [List.getElem?_map, hj]; rfl
  have hl : i < (L.map (·.born)).length := by
    rcases Nat.lt_or_ge i (L.map (·.born)).length with h3 | h3
    · exact h3
    · rw [List.getElem?_eq_none h3] at h1; cases h1
  exact (List.getElem?_inj hl h).1 (h1.trans h2.symm)

theorem Tab.Ok.at_ {t : Tab} (ok : t.Ok) {x : Ent} (hx : x ∈ t.pings) : ∃ j, Go.Proofs.Ytbopmcdmahabbaa.at_ (t.pings.map Ent.se) x.tx = some j ∧ t.pings[j]? = some x := by
  unfold Go.Proofs.Ytbopmcdmahabbaa.at_
  have hs : ((t.pings.map Ent.se).findIdx? fun y => y.tx == x.tx).isSome = true := by
    rw [List.findIdx?_isSome]
    simp only [List.any_map, List.any_eq_true]
    exact ⟨x, hx, by simp [Ent.se, (bytes_beq x.tx x.tx).2 rfl]⟩
  obtain ⟨j, hj⟩ := Option.isSome_iff_exists.1 hs
  refine ⟨j, hj, ?_⟩
  obtain ⟨hlt, h1, _⟩ := List.findIdx?_eq_some_iff_getElem.1 hj
  have hlt' : j < t.pings.length := by simpa using hlt
  have h2 : t.pings[j].tx = x.tx := by
    have := (bytes_beq _ _).1 h1
    simpa [Ent.se] using this
  rw [List.getElem?_eq_getElem hlt', ok.keys _ (List.getElem_mem hlt') _ hx h2]

/- The entry of an end is gone. -/
theorem Tab.Ok.erase_end {t : Tab} (ok : t.Ok) {x : Ent} {j : Nat} (hj : t.pings[j]? = some x) : t.pings.eraseIdx j = (t.quiet x.e).pings := by
  refine erase_filter (fun y => y.e.eqb x.e) _ j x hj (End.eqb_iff.2 rfl) (fun i y hi hy => ?_)
  have he := End.eqb_iff.1 hy
  have : y = x := ok.ends y (List.mem_of_getElem? hi) x (List.mem_of_getElem? hj) he
  subst this
  exact nodup_at ok.nodup hi hj

theorem map_erase {α β : Type} (f : α → β) (l : List α) (j : Nat) : (l.map f).eraseIdx j = (l.eraseIdx j).map f := (Go.ChangeMaps.map_eraseIdx f l j).symm

theorem Tab.Ok.sub {t : Tab} (ok : t.Ok) (p : Ent → Bool) : ({ t with pings := t.pings.filter p } : Tab).Ok := by
  have hm : ∀ x ∈ t.pings.filter p, x ∈ t.pings := fun x hx => (List.mem_filter.1 hx).1
  exact ⟨fun x hx => ok.born x (hm x hx), ok.nodup.sublist (List.filter_sublist.map _), fun x hx y hy => ok.keys x (hm x hx) y (hm y hy), fun x hx y hy => ok.ends x (hm x hx) y (hm y hy), fun x hx => ok.there x (hm x hx)⟩

theorem Tab.quiet_none {t : Tab} {e : End} (h : ∀ x ∈ t.pings, x.e.eqb e = false) : t.quiet e = t := by
  unfold Tab.quiet
  rw [List.filter_eq_self.2 (fun x hx => by simp [h x hx])]

section
variable {w w' : World} {b base cap m : Nat} {A U : Option Addr} {t : Tab}
/- Only the map has turned. -/
theorem TM.turned (h : TM w b base A cap m U t) {L : List Ent} {c : Nat} (hk : Keeps (fun g => g = m) w w') (hm : MBlk w' m (L.map Ent.se) c) : TM w' b base A cap m U { t with pings := L, clock := c } := by
  refine ⟨⟨h.lim.wait0, h.lim.wait1, h.lim.life0, h.lim.life1, h.lim.loss0, h.lim.loss1, h.lim.most0, h.lim.most1, h.lim.len⟩, h.blk.keep hk h.bm, h.row.keep hk (fun g hg => (h.own_sep hg).2), hm, ?_⟩
  have hu := h.used
  show match t.used with | none => U = none | some e => ∃ u, U = some ⟨u, 0, none⟩ ∧ Blk _ u 35 e.cells
  cases he : t.used with
  | none => rw [he] at hu; exact hu
  | some e =>
    rw [he] at hu
    obtain ⟨u, rfl, hb⟩ := hu
    exact ⟨u, rfl, hb.keep hk (h.used_sep rfl).2.1⟩
end

def Quieted (b base cap m : Nat) (A U : Option Addr) (t t' : Tab) (w : World) (r : Ending) (w' : World) : Prop :=
  r = .returned (.tuple #[]) ∧ TM w' b base A cap m U t' ∧ Keeps (fun g => g = m) w w'

set_option maxHeartbeats 1000000 in
theorem quiet_any {w : World} {b base cap m : Nat} {A U : Option Addr} {t : Tab} (h : TM w b base A cap m U t) (ok : t.Ok) (e : End) :
    Calls Try.prog 26 #[.pointer (some ⟨b, 0, none⟩), .agg e.cells] w (Quieted b base cap m A U t (t.quiet e) w) := by
  have h1 := h.alloc (.cells #[.bool e.v6, .int .u64 (e.hi : Int), .int .u64 (e.lo : Int), .int .u16 (e.port : Int)] 35)
  have hw := waits_any h1 ok e
  have Hw := Lib.hid hw
  clear hw
  rw [cellsE] at *
  go_enter Try.func26, Try.ntmps26
  go_wp2_with fail
  refine Hw.out.mono ?_
  rintro r w1 ⟨hr, hb⟩
  have h2 := h1.below hb
  obtain ⟨d0, d1, d2, d3, d4, d5, d6⟩ := h2.cells
  have k1 : Keeps (fun g => g = m) w w1 := ((Keeps.refl _ w).alloc _).trans (Keeps.of_below hb (fun k hk _ => hk))
  rcases hr with ⟨x, hx, hxe, rfl⟩ | ⟨hno, rfl⟩
  · obtain ⟨j, hj, hjx⟩ := ok.at_ hx
    obtain ⟨W, hdel, _, hk, hm⟩ := delete_sm (P := Try.prog) Try.underlying65 Try.underlying9 h2.map x.tx hj
    rw [map_erase, ok.erase_end hjx, End.eqb_iff.1 hxe] at hm
    have h3 := h2.turned hk hm
    have H3 := Lib.hid h3
    have Hk := Lib.hid hk
    clear h3 hm hj hjx hk hx hxe
    go_wp2_with fail
    go_end0
    exact ⟨rfl, H3.out, k1.trans Hk.out⟩
  · have Hq := Lib.hid (Tab.quiet_none hno)
    clear hno
    go_wp2_with fail
    go_end0
    exact ⟨rfl, by rw [Hq.out]; exact h2, k1⟩

end Go.Proofs.Ytbopmcdmahabbaa
