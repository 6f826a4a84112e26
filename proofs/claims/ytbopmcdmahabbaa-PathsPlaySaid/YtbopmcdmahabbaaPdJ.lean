/- Waiting. -/
import Derived.Test.YtbopmcdmahabbaaPdA
namespace Go.Proofs.Ytbopmcdmahabbaa
open Go.RowKit
attribute [local go_sem] run_store_float run_store_complex

def wOf (t : Tab) (e : End) : Option ByteArray := (t.pings.find? fun x => x.e.eqb e).map (·.tx)
def wlTo (t : Tab) (i : Nat) : List ByteArray := (t.l.take i).filterMap fun p => wOf t p.e
def wl (t : Tab) : List ByteArray := t.l.filterMap fun p => wOf t p.e

def wVal (o : Option ByteArray) : Value := match o with | some s => .tuple #[.string s, .bool true] | none => .tuple #[.string ⟨#[]⟩, .bool false]

theorem waited_of {t : Tab} (ok : t.Ok) {e : End} {w w' : World} {r : Ending} (h : Waited t e w r w') : r = .returned (wVal (wOf t e)) ∧ Below w.heap.size w w' := by
  obtain ⟨h, hb⟩ := h
  refine ⟨?_, hb⟩
  unfold wOf
  rcases h with ⟨x, hx, hxe, rfl⟩ | ⟨hno, rfl⟩
  · cases hf : t.pings.find? fun x => x.e.eqb e with
    | none => exact absurd hxe (List.find?_eq_none.1 hf x hx)
    | some y =>
      have hy := List.mem_of_find?_eq_some hf
      have hye := List.find?_some hf
      have : y = x := ok.ends y hy x hx ((End.eqb_iff.1 (by simpa using hye)).trans (End.eqb_iff.1 hxe).symm)
      rw [this]
      rfl
  · cases hf : t.pings.find? fun x => x.e.eqb e with
    | none => rfl
    | some y =>
      have hy := List.mem_of_find?_eq_some hf
      have hye := List.find?_some hf
      rw [hno y hy] at hye
      cases hye

theorem info9 : (Try.prog.info? 9).map (fun i => (i.zero, i.size, i.bytes)) = some (some (.string ⟨#[]⟩), 1, 16) := by kernel_rfl

def scells (l : List ByteArray) : List Value := l.map Value.string
def SRow (w : World) (base : Nat) (A : Option Addr) (cap : Nat) (l : List ByteArray) : Prop := w.ownsRow base 9 1 (.slice A l.length cap) l.length (scells l)
def SCells (w : World) (n : Nat) (A : Option Addr) (l : List ByteArray) : Prop := ∀ i s, l[i]? = some s → ∃ g, A = some ⟨g, 0, none⟩ ∧ n ≤ g ∧ g < w.heap.size ∧ w.cell? ⟨g, i, none⟩ = some (.string s)

theorem SRow.below {w w' : World} {base : Nat} {A : Option Addr} {cap : Nat} {l : List ByteArray} (h : SRow w base A cap l) (hb : Below w.heap.size w w') : SRow w' base A cap l := by
  unfold SRow at h ⊢
  obtain ⟨h1, h2⟩ := h
  refine ⟨h1, ?_⟩
  rcases h2 with h2 | ⟨g, cap, cur, hv, hg, hh, r⟩
  · exact .inl h2
  · refine .inr ⟨g, cap, cur, hv, hg, ?_, r⟩
    have hlt : g < w.heap.size := by
      rcases Nat.lt_or_ge g w.heap.size with hlt | hge
      · exact hlt
      · rw [Array.getElem?_eq_none hge] at hh; cases hh
    rw [hb.block g hlt]
    exact hh

theorem SRow.scells {w : World} {base : Nat} {A : Option Addr} {cap : Nat} {l : List ByteArray} (h : SRow w base A cap l) : SCells w base A l := by
  intro i s hs
  have hlt : i < l.length := by
    rcases Nat.lt_or_ge i l.length with h1 | h1
    · exact h1
    · rw [List.getElem?_eq_none h1] at hs; cases hs
  obtain ⟨g, cap', hv, hb, hg⟩ := World.ownsRow.form h (by omega)
  have hA : A = some ⟨g, 0, none⟩ := by injection hv
  subst hA
  refine ⟨g, rfl, hb, hg, ?_⟩
  have hc := World.ownsRow.cells h (g := g) rfl i (.string s) (by unfold Go.Proofs.Ytbopmcdmahabbaa.scells; rw [List.getElem?_map, hs]; rfl)
  have e : (⟨g, 0, none⟩ : Addr).add i = ⟨g, i, none⟩ := by unfold Addr.add; split <;> simp_all
  rw [e] at hc
  exact hc

theorem SRow.cap {w : World} {base : Nat} {A : Option Addr} {cap : Nat} {l : List ByteArray} (h : SRow w base A cap l) : l.length ≤ cap ∧ cap ≤ maxLen := by
  rcases h.2 with ⟨e2, h02⟩ | ⟨g2, cap3, cur2, e2, _, _, hq⟩
  · have : cap = 0 := by injection e2
    rw [this, h02]; exact ⟨Nat.le_refl _, Nat.zero_le _⟩
  · have : cap = cap3 := by injection e2
    subst this
    exact ⟨hq.1, hq.2.1⟩

theorem sclip_any (A : Option Addr) (len cap : Nat) (w : World) (hc : len ≤ cap) (hcap : cap ≤ maxLen) :
    Calls Try.prog 43 #[.slice A len cap] w fun r w' => r = .returned (.slice A len len) ∧ w = w' := by
  go_enter Try.func43, Try.ntmps43
  go_wp2
  go_ret
  exact ⟨rfl, rfl⟩

theorem wlTo_succ {t : Tab} {i : Nat} {p : Pth} (hp : t.l[i]? = some p) : wlTo t (i + 1) = wlTo t i ++ (match wOf t p.e with | some s => [s] | none => []) := by
  have hlt : i < t.l.length := by
    rcases Nat.lt_or_ge i t.l.length with h | h
    · exact h
    · rw [List.getElem?_eq_none h] at hp; cases hp
  rw [List.getElem?_eq_getElem hlt] at hp
  injection hp with hp
  unfold wlTo
  rw [List.take_succ_eq_append_getElem hlt, List.filterMap_append, hp]
  congr 1
  cases h : wOf t p.e <;> simp [h]
theorem wlTo_len (t : Tab) (i : Nat) : (wlTo t i).length ≤ i := by
  unfold wlTo
  have h1 := List.length_filterMap_le (fun p => wOf t p.e) (t.l.take i)
  rw [List.length_take] at h1
  omega
theorem wlTo_all (t : Tab) : wlTo t t.l.length = wl t := by unfold wlTo wl; rw [List.take_length]

/- What Waiting answers. -/
def Waiteds (n b : Nat) (t : Tab) (w : World) (r : Ending) (w' : World) : Prop :=
  ∃ A : Option Addr, r = .returned (.slice A (wl t).length (wl t).length) ∧ SCells w' w.heap.size A (wl t) ∧ Live n b t w' ∧ Below w.heap.size w w'

set_option maxHeartbeats 2000000 in
set_option maxRecDepth 100000 in
theorem live_waiting {n b : Nat} {t : Tab} {w : World} (h : Live n b t w) (ok : t.Ok) : Calls Try.prog 22 #[ptr b] w (Waiteds n b t w) := by
  have hL := h
  obtain ⟨base, A, cap, m, U, hm, h1, h2, h3, h4⟩ := h
  obtain ⟨c0, c1, c2, c3, c4', c5, c6⟩ := hm.cells
  have hlen : t.l.length ≤ 64 := Nat.le_trans hm.lim.len hm.lim.most1
  obtain ⟨i0, hi0, hz0, hz1, hz2⟩ := info_parts info9
  clear c0 c1 c2 c3 c6
  go_enter Try.func22, Try.ntmps22
  go_wp2_with (go_at_call 24; refine (tnone_some c5).mono ?_; rintro r0 w0 ⟨rfl, rfl⟩)
  go_loopw [3, 15] (fun v3 v15 wr => ∃ (i : Nat) (A' : Option Addr) (cap' : Nat), i ≤ t.l.length ∧ v15 = .int .i64 (i : Int) ∧ v3 = .slice A' (wlTo t i).length cap' ∧ SRow wr w.heap.size A' cap' (wlTo t i) ∧ Below w.heap.size w wr) (fun _ v15 _ => t.l.length - (intOf v15).toNat)
  case atStart => exact ⟨0, none, 0, Nat.zero_le _, rfl, rfl, ⟨rfl, .inl ⟨rfl, rfl⟩⟩, Below.refl _ _⟩
  case round =>
    obtain ⟨i, A', cap', hi, rfl, rfl, hrow, br⟩ := hrel
    have hmr := hm.below br
    have hi0' : (0 : Int) ≤ (i : Int) := by omega
    by_cases hlt : i < t.l.length
    · obtain ⟨p, hp⟩ : ∃ p, t.l[i]? = some p := ⟨t.l[i], List.getElem?_eq_getElem hlt⟩
      have hiL : (i : Int) < (t.l.length : Int) := by omega
      have ei : ((i + 1 : Nat) : Int) = (i : Int) + 1 := by omega
      have Ei := Lib.hid ei
      obtain ⟨g, rfl, hbg, hgl, hc⟩ := hmr.row.at_ hp
      have q0 := hc 0 (by omega)
      have q1 := hc 1 (by omega)
      have q2 := hc 2 (by omega)
      have q3 := hc 3 (by omega)
      have q4 := hc 4 (by omega)
      have q5 := hc 5 (by omega)
      have q6 := hc 6 (by omega)
      have q7 := hc 7 (by omega)
      simp [Pth.cells] at q0 q1 q2 q3 q4 q5 q6 q7
      have hls := wlTo_succ hp
      have hll := wlTo_len t i
      have Hls := Lib.hid hls
      have hwv := (waits_any (hmr.alloc (.cells #[.bool p.e.v6, .int .u64 (p.e.hi : Int), .int .u64 (p.e.lo : Int), .int .u16 (p.e.port : Int), .complex .f64 p.x p.y, .bool p.heard, .int .u64 (p.last : Int), .int .i64 p.lost] 53)) ok p.e).mono fun r w' hr => waited_of ok hr
      rw [cellsE] at hwv
      have Hwv := Lib.hid hwv
      have hrow1 := hrow.below ((Below.refl wr.heap.size wr).alloc (Nat.le_refl _) (.cells #[.bool p.e.v6, .int .u64 (p.e.hi : Int), .int .u64 (p.e.lo : Int), .int .u16 (p.e.port : Int), .complex .f64 p.x p.y, .bool p.heard, .int .u64 (p.last : Int), .int .i64 p.lost] 53))
      have b1 := br.alloc br.size (.cells #[.bool p.e.v6, .int .u64 (p.e.hi : Int), .int .u64 (p.e.lo : Int), .int .u16 (p.e.port : Int), .complex .f64 p.x p.y, .bool p.heard, .int .u64 (p.last : Int), .int .i64 p.lost] 53)
      clear hc hp ei hls hwv
      go_wp2_with fail
      go_at_call 42
      refine Hwv.out.mono ?_
      rintro r w1 ⟨rfl, g1⟩
      have hrow2 := hrow1.below g1
      have b2 := b1.trans (g1.mono b1.size)
      have hls := Hls.out
      cases hw : wOf t p.e with
      | none =>
        rw [hw] at hls
        simp only [List.append_nil] at hls
        have Hls := Lib.hid hls
        unfold wVal
        clear hls hw
        go_wp2_with fail
        go_roundw
        case rel => exact ⟨i + 1, A', cap', by omega, by rw [Ei.out], by rw [Hls.out], by rw [Hls.out]; exact hrow2, b2⟩
        case measure => simp [intOf]; omega
      | some s =>
        rw [hw] at hls
        simp only at hls
        have Hls := Lib.hid hls
        have hown := hrow2.below ((Below.refl w1.heap.size w1).alloc (Nat.le_refl _) (.cells #[.string s] 9))
        have hnews := World.news_of_block (cs := #[.string s]) (t := 9) (fr := (0, 0)) (heap_alloc_new w1 (.cells #[.string s] 9))
        have hone : ∀ u ∈ (#[Value.string s] : Array Value).toList, u.oneCell' = true := by simp [Value.oneCell']
        have Hnews := Lib.hid hnews
        have Hone := Lib.hid hone
        have Hown := Lib.hid hown
        have hbw := b2.size
        unfold wVal
        clear hls hw hown hnews hone
        go_wp2_with (at_builtin; refine wpList_append_own _ rfl (.tmp 27) (.tmp 29) _ rfl w.heap.size 9 i0 _ 1 16 Try.underlying61 hi0 hz0 hz1 hz2 rfl (by omega) (.slice A' (wlTo t i).length cap') (wlTo t i).length (scells (wlTo t i)) rfl Hown.out ⟨w1.heap.size, 0, none⟩ 1 1 (#[Value.string s] : Array Value).toList rfl rfl Hnews.out Hone.out (by simp only [maxLen]; omega) (by omega) (by simp; omega) ?_; intro v' w2 hown2 hgrow _)
        obtain ⟨A2, cap2, hv⟩ : ∃ A2 cap2, v' = .slice A2 ((wlTo t i).length + 1) cap2 := by
          rcases hown2.2 with ⟨e2, h0⟩ | ⟨g2, cap2, cur, e2, _⟩
          · omega
          · exact ⟨some ⟨g2, 0, none⟩, cap2, e2⟩
        subst hv
        refine ⟨⟨i + 1, A2, cap2, by omega, by rw [Ei.out], ?_, ?_, ?_⟩, ?_⟩
        · rw [Hls.out, List.length_append]; rfl
        · unfold SRow
          rw [Hls.out, List.length_append]
          unfold scells
          rw [List.map_append]
          exact hown2
        · refine (b2.alloc hbw _).grown hgrow (by simp; omega) (fun x hx => ?_)
          rcases hrow2.2 with ⟨e2, h0⟩ | ⟨g2, cap3, cur, e2, hg2, _⟩
          · rw [e2] at hx; cases hx
          · rw [e2] at hx
            have : g2 = x := by simpa [Value.ownBlock] using hx
            omega
        · simp [intOf]; omega
    · obtain rfl : i = t.l.length := by omega
      have hiL : decide ((t.l.length : Int) < (t.l.length : Int)) = false := by simp
      rw [wlTo_all] at hrow
      simp only [wlTo_all]
      have hcp := hrow.cap
      have Hrow := Lib.hid hrow
      clear hrow
      go_wp2_with (go_at_call 43; refine (sclip_any A' (wl t).length cap' wr hcp.1 hcp.2).mono ?_; rintro r2 w2 ⟨rfl, rfl⟩)
      go_ret
      exact ⟨A', rfl, Hrow.out.scells, hL.below br, br⟩

end Go.Proofs.Ytbopmcdmahabbaa
