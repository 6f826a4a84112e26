/- Joined out of: IpQ IpS IpT WhB TwC. -/
import Derived.Test.YtomndcjgdfhmbaaGreatDoorJag
import Derived.Deep.RegionHeld3
import Derived.BigRegion
import Derived.Test.YtomndcjgdfhmbaaGreatDoorJaf
import Derived.Test.YtomndcjgdfhmbaaGreatDoorJae
import Derived.Deep.Onto
import Derived.Deep.CutBlock
import Derived.Test.YtomndcjgdfhmbaaGreatDoorJac
set_option linter.unusedVariables false
set_option linter.unusedSimpArgs false

/- Whether a number stands among some: the walks. -/
namespace Go.Proofs.YtomndcjgdfhmbaaGreatDoor
open Go.RowKit
attribute [local go_sem ↓] Go.wp_at_zero Go.wp_at_succ

def At (i : Int) (P : Prop) : Prop := 0 ≤ i ↔ P
def IxPost (x : Nat) (zs : List Nat) (w : World) (r : Ending) (w' : World) : Prop := (∃ i : Int, r = .returned (.int .i64 i) ∧ (0 ≤ i ↔ x ∈ zs)) ∧ w = w'

set_option maxHeartbeats 1000000 in
theorem index_u8 {w : World} {g : Nat} (zs : List Nat) (cap : Nat) (hl : zs.length ≤ 1000000) (hz : 1 ≤ zs.length) (h : ∀ j (hj : j < zs.length), w.cell? ⟨g, j, none⟩ = some (.int .u8 ((zs[j]'hj : Nat) : Int))) (x : Nat) : Calls Tryz.prog 90 #[.slice (some ⟨g, 0, none⟩) zs.length cap, .int .u8 (x : Int)] w (IxPost x zs w) := by
  have H := Lib.hid h
  clear h
  go_enter Tryz.func90, Tryz.ntmps90
  go_wp2_with fail
  go_loopw [8] (fun v8 wr => ∃ k : Nat, k ≤ zs.length ∧ v8 = .int .i64 (k : Int) ∧ RowKit.Hid (x ∉ zs.take k) ∧ wr = w) (fun v8 _ => zs.length - (intOf v8).toNat)
  case atStart => exact ⟨0, Nat.zero_le _, rfl, Lib.hid (by simp), rfl⟩
  case round =>
    obtain ⟨k, hk, rfl, hn, rfl⟩ := hrel
    by_cases hlt : k < zs.length
    · have hc := H.out k hlt
      have ht : zs.take (k + 1) = zs.take k ++ [zs[k]] := List.take_succ_eq_append_getElem hlt
      have hm : zs[k] ∈ zs := List.getElem_mem hlt
      generalize zs[k] = z at hc ht hm
      have Ht := Lib.hid ht
      have Hm := Lib.hid hm
      clear ht hm
      by_cases he : x = z
      · have e1 : ((x : Int) == (z : Int)) = true := by simp [he]
        have He := Lib.hid he
        clear he
        go_wp2_with fail
        go_ret
        exact ⟨⟨_, rfl, ⟨fun _ => by rw [He.out]; exact Hm.out, fun _ => by omega⟩⟩, rfl⟩
      · have e1 : ((x : Int) == (z : Int)) = false := by simp; omega
        have He := Lib.hid he
        clear he
        go_wp2_with fail
        go_roundw
        case rel => exact ⟨k + 1, by omega, by go_num, Lib.hid (by rw [Ht.out]; simp; exact ⟨hn.out, He.out⟩), (by first | rfl | trivial)⟩
        case measure => simp [intOf]; omega
    · have hks : k = zs.length := by omega
      subst hks
      go_wp2_with fail
      go_ret
      refine ⟨⟨_, rfl, ⟨fun h => absurd h (by decide), fun h => ?_⟩⟩, rfl⟩
      have := hn.out
      rw [List.take_length] at this
      exact absurd h this
theorem contains_u8 {w : World} {g : Nat} (zs : List Nat) (cap : Nat) (hl : zs.length ≤ 1000000) (hz : 1 ≤ zs.length) (h : ∀ j (hj : j < zs.length), w.cell? ⟨g, j, none⟩ = some (.int .u8 ((zs[j]'hj : Nat) : Int))) (x : Nat) : Calls Tryz.prog 71 #[.slice (some ⟨g, 0, none⟩) zs.length cap, .int .u8 (x : Int)] w fun r w' => r = .returned (.bool (decide (x ∈ zs))) ∧ w = w' := by
  have H := Lib.hid (index_u8 zs cap hl hz h x)
  clear h
  by_cases hx : x ∈ zs
  · rw [decide_eq_true hx]
    have Hx := Lib.hid hx
    clear hx
    go_enter Tryz.func71, Tryz.ntmps71
    go_wp2_with (go_at_call 90; refine H.out.mono ?_; rintro r wf ⟨⟨i, rfl, hi⟩, rfl⟩; have h0 := hi.2 Hx.out; clear hi)
    go_ret
    exact ⟨rfl, rfl⟩
  · rw [decide_eq_false hx]
    have Hx := Lib.hid hx
    clear hx
    go_enter Tryz.func71, Tryz.ntmps71
    go_wp2_with (go_at_call 90; refine H.out.mono ?_; rintro r wf ⟨⟨i, rfl, hi⟩, rfl⟩; have h0 : ¬ 0 ≤ i := (fun h => Hx.out (hi.1 h)); clear hi)
    go_ret
    exact ⟨show Ending.returned (Value.bool (decide (0 ≤ i))) = _ by rw [decide_eq_false (by omega)], rfl⟩
end Go.Proofs.YtomndcjgdfhmbaaGreatDoor

/- Decode of IPv6: a reader behind a variable that a closure captures; the closure. (Printed by ip_six.py.) -/
namespace Go.Proofs.YtomndcjgdfhmbaaGreatDoor
open Go.RowKit
attribute [local go_sem ↓] Go.wp_at_zero Go.wp_at_succ

/- The reader, a result's place, the variable that holds the reader: as far as k bytes are read, and there are. -/
structure S6 (W : World) (r b pc : Nat) (s : ByteArray) (k : Nat) (Z : Array Value) (T : TypeId) (w : World) : Prop where
  st : St W r b s k Z T w
  ptr : Blk w pc 91 #[.pointer (some ⟨b, 0, none⟩)]
structure H6 (W : World) (r b pc : Nat) (s : ByteArray) (k : Nat) (Z : Array Value) (T : TypeId) (w : World) : Prop where
  sh : Sh W r b s k Z T w
  ptr : Blk w pc 91 #[.pointer (some ⟨b, 0, none⟩)]

section
variable {W w w' : World} {r b pc k : Nat} {s : ByteArray} {Z : Array Value} {T : TypeId}
theorem S6.below (h : S6 W r b pc s k Z T w) (hb : Below w.heap.size w w') : S6 W r b pc s k Z T w' :=
  ⟨⟨h.st.rd.below hb, Blk.below h.st.blk hb h.st.blk.lt, after h.st.bel hb⟩, Blk.below h.ptr hb h.ptr.lt⟩
theorem H6.below (h : H6 W r b pc s k Z T w) (hb : Below w.heap.size w w') : H6 W r b pc s k Z T w' := by
  obtain ⟨⟨⟨s', f, h0, hs, hf⟩, hB, hW⟩, hp⟩ := h
  exact ⟨⟨⟨s', f, h0.below hb, hs, hf⟩, Blk.below hB hb hB.lt, after hW hb⟩, Blk.below hp hb hp.lt⟩
theorem S6.drew (h : S6 W r b pc s k Z T w) : S6 W r b pc s k Z T w.drew := ⟨⟨h.st.rd, h.st.blk, h.st.bel.drew⟩, h.ptr⟩
theorem H6.drew (h : H6 W r b pc s k Z T w) : H6 W r b pc s k Z T w.drew := ⟨⟨h.sh.rd, h.sh.blk, h.sh.bel.drew⟩, h.ptr⟩
theorem S6.cell (h : S6 W r b pc s k Z T w) : w.cell? ⟨pc, 0, none⟩ = some (.pointer (some ⟨b, 0, none⟩)) := h.ptr.cell 0
theorem H6.cell (h : H6 W r b pc s k Z T w) : w.cell? ⟨pc, 0, none⟩ = some (.pointer (some ⟨b, 0, none⟩)) := h.ptr.cell 0
theorem U8_s6 (h : S6 W r b pc s k Z T w) (hr : r ≠ b) (hp : pc ≠ b) (hB : W.heap.size ≤ b) (hs : s.size ≤ 1000000) (hk : k + 1 ≤ s.size) : Calls Tryz.prog 65 #[.pointer (some ⟨b, 0, none⟩)] w fun e w' => e = .returned (.int .u8 (valB (s.extract k (k + 1)) : Int)) ∧ S6 W r b pc s (k + 1) Z T w' ∧ Keeps (fun k => k = b) w w' := by
  refine (U8_read h.st.rd (ext_le s k hs)).mono fun e w' ⟨he, h1, hK⟩ => ⟨?_, ⟨h.st.step hr hB hk h1 hK, h.ptr.keep hK hp⟩, hK⟩
  rw [he]
  unfold numV
  rw [(tk_ok hk).1]
theorem U8_h6 (h : H6 W r b pc s k Z T w) (hr : r ≠ b) (hp : pc ≠ b) (hB : W.heap.size ≤ b) : Calls Tryz.prog 65 #[.pointer (some ⟨b, 0, none⟩)] w fun e w' => (∃ n : Nat, e = .returned (.int .u8 (n : Int))) ∧ H6 W r b pc s (k + 1) Z T w' ∧ Keeps (fun k => k = b) w w' := by
  obtain ⟨s', f, h0, hs, hf⟩ := h.sh.rd
  exact (U8_read h0 hs).mono fun e w' ⟨he, h1, hK⟩ => ⟨⟨_, he⟩, ⟨h.sh.step hr hB hs hf h1 hK, h.ptr.keep hK hp⟩, hK⟩
theorem U16_s6 (h : S6 W r b pc s k Z T w) (hr : r ≠ b) (hp : pc ≠ b) (hB : W.heap.size ≤ b) (hs : s.size ≤ 1000000) (hk : k + 2 ≤ s.size) : Calls Tryz.prog 64 #[.pointer (some ⟨b, 0, none⟩)] w fun e w' => e = .returned (.int .u16 (valB (s.extract k (k + 2)) : Int)) ∧ S6 W r b pc s (k + 2) Z T w' ∧ Keeps (fun k => k = b) w w' := by
  refine (U16_read h.st.rd (ext_le s k hs)).mono fun e w' ⟨he, h1, hK⟩ => ⟨?_, ⟨h.st.step hr hB hk h1 hK, h.ptr.keep hK hp⟩, hK⟩
  rw [he]
  unfold numV
  rw [(tk_ok hk).1]
theorem U16_h6 (h : H6 W r b pc s k Z T w) (hr : r ≠ b) (hp : pc ≠ b) (hB : W.heap.size ≤ b) : Calls Tryz.prog 64 #[.pointer (some ⟨b, 0, none⟩)] w fun e w' => (∃ n : Nat, e = .returned (.int .u16 (n : Int))) ∧ H6 W r b pc s (k + 2) Z T w' ∧ Keeps (fun k => k = b) w w' := by
  obtain ⟨s', f, h0, hs, hf⟩ := h.sh.rd
  exact (U16_read h0 hs).mono fun e w' ⟨he, h1, hK⟩ => ⟨⟨_, he⟩, ⟨h.sh.step hr hB hs hf h1 hK, h.ptr.keep hK hp⟩, hK⟩
theorem U32_s6 (h : S6 W r b pc s k Z T w) (hr : r ≠ b) (hp : pc ≠ b) (hB : W.heap.size ≤ b) (hs : s.size ≤ 1000000) (hk : k + 4 ≤ s.size) : Calls Tryz.prog 66 #[.pointer (some ⟨b, 0, none⟩)] w fun e w' => e = .returned (.int .u32 (valB (s.extract k (k + 4)) : Int)) ∧ S6 W r b pc s (k + 4) Z T w' ∧ Keeps (fun k => k = b) w w' := by
  refine (U32_read h.st.rd (ext_le s k hs)).mono fun e w' ⟨he, h1, hK⟩ => ⟨?_, ⟨h.st.step hr hB hk h1 hK, h.ptr.keep hK hp⟩, hK⟩
  rw [he]
  unfold numV
  rw [(tk_ok hk).1]
theorem U32_h6 (h : H6 W r b pc s k Z T w) (hr : r ≠ b) (hp : pc ≠ b) (hB : W.heap.size ≤ b) : Calls Tryz.prog 66 #[.pointer (some ⟨b, 0, none⟩)] w fun e w' => (∃ n : Nat, e = .returned (.int .u32 (n : Int))) ∧ H6 W r b pc s (k + 4) Z T w' ∧ Keeps (fun k => k = b) w w' := by
  obtain ⟨s', f, h0, hs, hf⟩ := h.sh.rd
  exact (U32_read h0 hs).mono fun e w' ⟨he, h1, hK⟩ => ⟨⟨_, he⟩, ⟨h.sh.step hr hB hs hf h1 hK, h.ptr.keep hK hp⟩, hK⟩
theorem U64_s6 (h : S6 W r b pc s k Z T w) (hr : r ≠ b) (hp : pc ≠ b) (hB : W.heap.size ≤ b) (hs : s.size ≤ 1000000) (hk : k + 8 ≤ s.size) : Calls Tryz.prog 69 #[.pointer (some ⟨b, 0, none⟩)] w fun e w' => e = .returned (.int .u64 (valB (s.extract k (k + 8)) : Int)) ∧ S6 W r b pc s (k + 8) Z T w' ∧ Keeps (fun k => k = b) w w' := by
  refine (U64_read h.st.rd (ext_le s k hs)).mono fun e w' ⟨he, h1, hK⟩ => ⟨?_, ⟨h.st.step hr hB hk h1 hK, h.ptr.keep hK hp⟩, hK⟩
  rw [he]
  unfold numV
  rw [(tk_ok hk).1]
theorem U64_h6 (h : H6 W r b pc s k Z T w) (hr : r ≠ b) (hp : pc ≠ b) (hB : W.heap.size ≤ b) : Calls Tryz.prog 69 #[.pointer (some ⟨b, 0, none⟩)] w fun e w' => (∃ n : Nat, e = .returned (.int .u64 (n : Int))) ∧ H6 W r b pc s (k + 8) Z T w' ∧ Keeps (fun k => k = b) w w' := by
  obtain ⟨s', f, h0, hs, hf⟩ := h.sh.rd
  exact (U64_read h0 hs).mono fun e w' ⟨he, h1, hK⟩ => ⟨⟨_, he⟩, ⟨h.sh.step hr hB hs hf h1 hK, h.ptr.keep hK hp⟩, hK⟩
end
end Go.Proofs.YtomndcjgdfhmbaaGreatDoor

/- Decode of IPv6: the closure. -/
namespace Go.Proofs.YtomndcjgdfhmbaaGreatDoor
open Go.RowKit
attribute [local go_sem ↓] Go.wp_at_zero Go.wp_at_succ

theorem load_ad {w : World} {g : Nat} {v0 v1 v2 : Value} (h : Blk w g 24 #[v0, v1, v2]) : (loadVar 24 ⟨g, 0, none⟩).run Tryz.prog w = .ok (.agg #[v0, v1, v2]) w := by
  have c0 := h.cell 0
  have c1 := h.cell 1
  have c2 := h.cell 2
  simp at c0 c1 c2
  simp [loadVar, go_sem, c0, c1, c2]
theorem results_c {P : Program} {fn : Func} {tmps : Array Value} {w : World} {x : Nat} {T : TypeId} {g : Nat} {V : Value} (hres : fn.results = #[.cell x T]) (h1 : tmps.getD x undef = .pointer (some ⟨g, 0, none⟩)) (hl : (loadVar T ⟨g, 0, none⟩).run P w = .ok V w) : (results fn tmps).run P w = .ok V w := by
  have h1' : tmps[x]?.getD undef = .pointer (some ⟨g, 0, none⟩) := by simpa using h1
  simp [results, hres, h1', asAddr, hl]

theorem S6.far {W w : World} {r b pc k : Nat} {s : ByteArray} {Z : Array Value} {T : TypeId} (h : S6 W r b pc s k Z T w) {g : Nat} (h1 : b ≠ g) (h2 : r ≠ g) (h3 : pc ≠ g) (h4 : W.heap.size ≤ g) (i : Nat) (u : Value) : S6 W r b pc s k Z T (w.setCell ⟨g, i, none⟩ u) :=
  ⟨⟨Blk.far h.st.rd (p := ⟨g, i, none⟩) h1 u, h.st.blk.far (p := ⟨g, i, none⟩) h2 u, h.st.bel.setCell (p := ⟨g, i, none⟩) h4 u⟩, h.ptr.far (p := ⟨g, i, none⟩) h3 u⟩

set_option maxHeartbeats 2000000 in
set_option maxRecDepth 100000 in
theorem six1_s6 {W w : World} {r b pc k : Nat} {s : ByteArray} {Z : Array Value} {T : TypeId} (h : S6 W r b pc s k Z T w) (hr : r ≠ b) (hp : pc ≠ b) (hB : W.heap.size ≤ b) (hs : s.size ≤ 1000000) (hk : k + 8 + 8 ≤ s.size) : Calls Tryz.prog 68 #[.pointer (some ⟨pc, 0, none⟩)] w fun e w' => e = .returned (.agg #[.bool true, .int .u64 (valB (s.extract k (k + 8)) : Int), .int .u64 (valB (s.extract (k + 8) (k + 8 + 8)) : Int)]) ∧ S6 W r b pc s (k + 8 + 8) Z T w' := by
  have hbl : b < w.heap.size := h.st.rd.lt
  have hpl : pc < w.heap.size := h.ptr.lt
  have hrl : r < w.heap.size := h.st.blk.lt
  have hWl : W.heap.size ≤ w.heap.size := h.st.bel.size
  have h1 := h.below (boxed w (.cells #[.bool false, .int .u64 0, .int .u64 0] 24))
  have hg := Blk.new w 24 #[.bool false, .int .u64 0, .int .u64 0]
  clear h
  go_enter Tryz.func68, Tryz.ntmps68
  go_wp2_with fail
  generalize w.alloc (.cells #[.bool false, .int .u64 0, .int .u64 0] 24) = v at h1 hg ⊢
  generalize w.heap.size = g at hbl hpl hrl hWl hg ⊢
  have hgb : g ≠ b := by omega
  have hgp : g ≠ pc := by omega
  have hgr : g ≠ r := by omega
  clear hbl hpl hrl
  have x1 := h1.cell
  have H1 := Lib.hid h1.drew
  have HG1 := Lib.hid hg.drew
  clear h1 hg
  go_region_held3 (fun w' => w'.cell? ⟨pc, 0, none⟩ = some (.pointer (some ⟨b, 0, none⟩)))
    (first | exact x1 | exact x2 | exact x3 | (rw [cell_far (by exact hgp), cell_far (by exact hgp), cell_far (by exact hgp)]; exact x3))
    (first
      | (go_at_call 69; (with_reducible refine (U64_s6 H1.out hr hp hB hs (by omega)).mono ?_); rintro e1 v2 ⟨rfl, g2, K2⟩; have x2 := g2.cell; have H2 := Lib.hid g2; have HG2 := Lib.hid (HG1.out.keep K2 hgb); clear g2 K2)
      | (go_at_call 69; (with_reducible refine (U64_s6 H2.out hr hp hB hs (by omega)).mono ?_); rintro e1 v3 ⟨rfl, g3, K3⟩; have x3 := g3.cell; have H3 := Lib.hid g3; have hG3 := HG2.out.keep K3 hgb; have c0 := hG3.cell 0; have c1 := hG3.cell 1; have c2 := hG3.cell 2; simp at c0 c1 c2; have fr := (fun i => hG3.frozen i); have HG3 := Lib.hid hG3; clear g3 K3 hG3))
  go_wp2_with fail
  have s1 := (HG3.out.set_ 0 (.bool true))
  have s2 : Blk _ g 24 #[.bool true, .int .u64 (valB (s.extract k (k + 8)) : Int), .int .u64 0] := s1.set_ 1 (.int .u64 (valB (s.extract k (k + 8)) : Int))
  have s3 : Blk _ g 24 #[.bool true, .int .u64 (valB (s.extract k (k + 8)) : Int), .int .u64 (valB (s.extract (k + 8) (k + 8 + 8)) : Int)] := s2.set_ 2 (.int .u64 (valB (s.extract (k + 8) (k + 8 + 8)) : Int))
  refine bodyPost_ret (results_c (x := 1) rfl rfl (load_ad s3)) rfl ⟨rfl, ?_⟩
  exact ((H3.out.far hgb.symm hgr.symm hgp.symm hWl 0 _).far hgb.symm hgr.symm hgp.symm hWl 1 _).far hgb.symm hgr.symm hgp.symm hWl 2 _
theorem H6.far {W w : World} {r b pc k : Nat} {s : ByteArray} {Z : Array Value} {T : TypeId} (h : H6 W r b pc s k Z T w) {g : Nat} (h1 : b ≠ g) (h2 : r ≠ g) (h3 : pc ≠ g) (h4 : W.heap.size ≤ g) (i : Nat) (u : Value) : H6 W r b pc s k Z T (w.setCell ⟨g, i, none⟩ u) :=
  by
  obtain ⟨⟨⟨s', f, h0, hs, hf⟩, hB, hW⟩, hp⟩ := h
  exact ⟨⟨⟨s', f, Blk.far h0 (p := ⟨g, i, none⟩) h1 u, hs, hf⟩, hB.far (p := ⟨g, i, none⟩) h2 u, hW.setCell (p := ⟨g, i, none⟩) h4 u⟩, hp.far (p := ⟨g, i, none⟩) h3 u⟩

set_option maxHeartbeats 2000000 in
set_option maxRecDepth 100000 in
theorem six1_h6 {W w : World} {r b pc k : Nat} {s : ByteArray} {Z : Array Value} {T : TypeId} (h : H6 W r b pc s k Z T w) (hr : r ≠ b) (hp : pc ≠ b) (hB : W.heap.size ≤ b) : Calls Tryz.prog 68 #[.pointer (some ⟨pc, 0, none⟩)] w fun e w' => (∃ x y : Nat, e = .returned (.agg #[.bool true, .int .u64 (x : Int), .int .u64 (y : Int)])) ∧ H6 W r b pc s (k + 8 + 8) Z T w' := by
  have hbl : b < w.heap.size := (by obtain ⟨s', f, h0, _⟩ := h.sh.rd; exact h0.lt)
  have hpl : pc < w.heap.size := h.ptr.lt
  have hrl : r < w.heap.size := h.sh.blk.lt
  have hWl : W.heap.size ≤ w.heap.size := h.sh.bel.size
  have h1 := h.below (boxed w (.cells #[.bool false, .int .u64 0, .int .u64 0] 24))
  have hg := Blk.new w 24 #[.bool false, .int .u64 0, .int .u64 0]
  clear h
  go_enter Tryz.func68, Tryz.ntmps68
  go_wp2_with fail
  generalize w.alloc (.cells #[.bool false, .int .u64 0, .int .u64 0] 24) = v at h1 hg ⊢
  generalize w.heap.size = g at hbl hpl hrl hWl hg ⊢
  have hgb : g ≠ b := by omega
  have hgp : g ≠ pc := by omega
  have hgr : g ≠ r := by omega
  clear hbl hpl hrl
  have x1 := h1.cell
  have H1 := Lib.hid h1.drew
  have HG1 := Lib.hid hg.drew
  clear h1 hg
  go_region_held3 (fun w' => w'.cell? ⟨pc, 0, none⟩ = some (.pointer (some ⟨b, 0, none⟩)))
    (first | exact x1 | exact x2 | exact x3 | (rw [cell_far (by exact hgp), cell_far (by exact hgp), cell_far (by exact hgp)]; exact x3))
    (first
      | (go_at_call 69; (with_reducible refine (U64_h6 H1.out hr hp hB).mono ?_); rintro e1 v2 ⟨⟨y1, rfl⟩, g2, K2⟩; have x2 := g2.cell; have H2 := Lib.hid g2; have HG2 := Lib.hid (HG1.out.keep K2 hgb); clear g2 K2)
      | (go_at_call 69; (with_reducible refine (U64_h6 H2.out hr hp hB).mono ?_); rintro e1 v3 ⟨⟨y2, rfl⟩, g3, K3⟩; have x3 := g3.cell; have H3 := Lib.hid g3; have hG3 := HG2.out.keep K3 hgb; have c0 := hG3.cell 0; have c1 := hG3.cell 1; have c2 := hG3.cell 2; simp at c0 c1 c2; have fr := (fun i => hG3.frozen i); have HG3 := Lib.hid hG3; clear g3 K3 hG3))
  go_wp2_with fail
  have s1 := (HG3.out.set_ 0 (.bool true))
  have s2 : Blk _ g 24 #[.bool true, .int .u64 (y1 : Int), .int .u64 0] := s1.set_ 1 (.int .u64 (y1 : Int))
  have s3 : Blk _ g 24 #[.bool true, .int .u64 (y1 : Int), .int .u64 (y2 : Int)] := s2.set_ 2 (.int .u64 (y2 : Int))
  refine bodyPost_ret (results_c (x := 1) rfl rfl (load_ad s3)) rfl ⟨⟨y1, y2, rfl⟩, ?_⟩
  exact ((H3.out.far hgb.symm hgr.symm hgp.symm hWl 0 _).far hgb.symm hgr.symm hgp.symm hWl 1 _).far hgb.symm hgr.symm hgp.symm hWl 2 _
end Go.Proofs.YtomndcjgdfhmbaaGreatDoor

/- Eight numbers as an address: the walk. -/
namespace Go.Proofs.YtomndcjgdfhmbaaGreatDoor
open Go.RowKit

theorem ret_ad {fn : Func} {a : Act} {W w : World} {g x y : Nat} {v0 v1 v2 u : Value} (hres : fn.results = #[.cell x 24, .tmp y]) (hB : Blk w g 24 #[v0, v1, v2]) (hb : Below W.heap.size W w) (h1 : a.tmps.getD x undef = .pointer (some ⟨g, 0, none⟩)) (h2 : a.tmps.getD y undef = u) (hd : a.defers = []) : bodyPost Tryz.prog fn (Got (.tuple #[.agg #[v0, v1, v2], u]) W) .ret a w :=
  bodyPost_ret (results_ct hres h1 h2 (load_ad hB)) hd ⟨rfl, hb⟩
theorem three {W w : World} {g : Nat} {z0 z1 z2 v0 v1 v2 : Value} (hB : Blk w g 24 #[z0, z1, z2]) (hb : Below W.heap.size W w) (hg : W.heap.size ≤ g) : Blk (((w.setCell ⟨g, 0, none⟩ v0).setCell ⟨g, 1, none⟩ v1).setCell ⟨g, 2, none⟩ v2) g 24 #[v0, v1, v2] ∧ Below W.heap.size W (((w.setCell ⟨g, 0, none⟩ v0).setCell ⟨g, 1, none⟩ v1).setCell ⟨g, 2, none⟩ v2) := by
  have s0 : Blk (w.setCell ⟨g, 0, none⟩ v0) g 24 #[v0, z1, z2] := hB.set_ 0 v0
  have s1 : Blk ((w.setCell ⟨g, 0, none⟩ v0).setCell ⟨g, 1, none⟩ v1) g 24 #[v0, v1, z2] := s0.set_ 1 v1
  have s2 : Blk (((w.setCell ⟨g, 0, none⟩ v0).setCell ⟨g, 1, none⟩ v1).setCell ⟨g, 2, none⟩ v2) g 24 #[v0, v1, v2] := s1.set_ 2 v2
  exact ⟨s2, ((hb.setCell (p := ⟨g, 0, none⟩) hg v0).setCell (p := ⟨g, 1, none⟩) hg v1).setCell (p := ⟨g, 2, none⟩) hg v2⟩
theorem ret_ad3 {fn : Func} {a : Act} {W w : World} {g x y : Nat} {z0 z1 z2 v0 v1 v2 u : Value} (hres : fn.results = #[.cell x 24, .tmp y]) (hB : Blk w g 24 #[z0, z1, z2]) (hb : Below W.heap.size W w) (hg : W.heap.size ≤ g) (h1 : a.tmps.getD x undef = .pointer (some ⟨g, 0, none⟩)) (h2 : a.tmps.getD y undef = u) (hd : a.defers = []) : bodyPost Tryz.prog fn (Got (.tuple #[.agg #[v0, v1, v2], u]) W) .ret a (((w.setCell ⟨g, 0, none⟩ v0).setCell ⟨g, 1, none⟩ v1).setCell ⟨g, 2, none⟩ v2) :=
  ret_ad hres (three hB hb hg).1 (three hB hb hg).2 h1 h2 hd

theorem or16 {h x : Nat} (hh : h < 281474976710656) (hx : x < 65536) : bits .or .u64 ((h : Int) * 65536) (x : Int) = ((h * 65536 + x : Nat) : Int) := by
  have e := u64_or_nat (h * 65536) x (by omega) (by omega)
  rw [show (h : Int) * 65536 = ((h * 65536 : Nat) : Int) by omega, e]
  have := Nat.shiftLeft_add_eq_or_of_lt (i := 16) (b := x) (by omega) h
  rw [Nat.shiftLeft_eq] at this
  rw [show (65536 : Nat) = 2 ^ 16 from rfl, ← this]

theorem fold16_snoc (l : List Nat) (x : Nat) : fold16 (l ++ [x]) = fold16 l * 65536 + x := by unfold fold16; rw [List.foldl_append]; rfl
theorem fold16_bound {l : List Nat} (h : ∀ x ∈ l, x < 65536) (hl : l.length ≤ 3) : fold16 l < 281474976710656 := by
  have := fold16_lt l 0 1 h (by decide)
  have h2 : 65536 ^ l.length ≤ 65536 ^ 3 := Nat.pow_le_pow_right (by decide) hl
  unfold fold16
  omega
theorem fold_step16 {A : List Nat} {k : Nat} (hk : k < A.length) (hA : ∀ x ∈ A, x < 65536) :
    (if k < 4 then fold16 ((A.take (k + 1)).take 4) = fold16 ((A.take k).take 4) * 65536 + A.getD k 0 ∧ fold16 ((A.take (k + 1)).drop 4) = fold16 ((A.take k).drop 4)
     else fold16 ((A.take (k + 1)).take 4) = fold16 ((A.take k).take 4) ∧ (k < 8 → fold16 ((A.take (k + 1)).drop 4) = fold16 ((A.take k).drop 4) * 65536 + A.getD k 0))
    ∧ (k < 4 → fold16 ((A.take k).take 4) < 281474976710656) ∧ (k < 8 → fold16 ((A.take k).drop 4) < 281474976710656) := by
  have hs : A.take (k + 1) = A.take k ++ [A.getD k 0] := by
    rw [List.take_succ_eq_append_getElem hk, List.getD_eq_getElem?_getD, List.getElem?_eq_getElem hk]
    rfl
  have hkl : (A.take k).length = k := by rw [List.length_take]; omega
  refine ⟨?_, fun h => fold16_bound (take_lt (take_lt hA)) (by rw [List.length_take, hkl]; omega), fun h => fold16_bound (drop_lt (take_lt hA)) (by rw [List.length_drop, hkl]; omega)⟩
  split
  · next h =>
    rw [hs, List.take_of_length_le (l := A.take k) (by omega), List.take_of_length_le (by rw [List.length_append, hkl]; simp; omega), fold16_snoc]
    refine ⟨rfl, ?_⟩
    rw [List.drop_of_length_le (by rw [List.length_append, hkl]; simp; omega), List.drop_of_length_le (by omega)]
  · next h =>
    rw [hs, List.take_append_of_le_length (by omega), List.drop_append_of_le_length (by omega), fold16_snoc]
    exact ⟨rfl, fun _ => rfl⟩

def wholeV (o : Option Ad) : Value := match o with
  | none => .tuple #[.agg #[.bool false, .int .u64 0, .int .u64 0], .bool false]
  | some a => .tuple #[.agg a.cells, .bool true]

set_option maxHeartbeats 4000000 in
set_option maxRecDepth 100000 in
theorem whole_any {w : World} {bf bb : Nat} {vf vb : Value} (f b : List Nat) (gap : Bool) (hof : w.ownsRow bf 22 1 vf f.length (cellsU f)) (hob : w.ownsRow bb 22 1 vb b.length (cellsU b)) (hf : f.length ≤ 9) (hb9 : b.length ≤ 9) (hfx : ∀ x ∈ f, x < 65536) (hbx : ∀ x ∈ b, x < 65536) : Calls Tryz.prog 45 #[vf, vb, .bool gap] w (Got (wholeV (wholeL f b gap)) w) := by
  obtain ⟨i0, hi, hz0, hz1, hz2⟩ := info_parts info_u64
  obtain ⟨Af, capf, rfl⟩ := own_shape hof
  obtain ⟨Ab, capb, rfl⟩ := own_shape hob
  have hB0 := Blk.new w 24 #[.bool false, .int .u64 0, .int .u64 0]
  have hb0 := boxed w (.cells #[.bool false, .int .u64 0, .int .u64 0] 24)
  obtain ⟨WL, hWL⟩ : ∃ o, o = wholeL f b gap := ⟨_, rfl⟩
  have hWL2 := hWL
  unfold wholeL at hWL2
  rw [← hWL]
  have HFL : Hid (f.length = f.length) := Lib.hid rfl
  obtain ⟨F, hF⟩ : ∃ n, n = f.length := ⟨_, rfl⟩
  obtain ⟨G, hG⟩ : ∃ n, n = b.length := ⟨_, rfl⟩
  rw [← hF, ← hG] at hWL2
  rw [← hF] at hof hf
  rw [← hG] at hob hb9
  rw [← hF, ← hG]
  have Hof := Lib.hid hof
  have Hob := Lib.hid hob
  have HF := Lib.hid hF
  have HG := Lib.hid hG
  clear hof hob hWL hF hG HFL
  by_cases hbad : (gap = false ∧ F + G ≠ 8) ∨ (gap = true ∧ 7 < F + G)
  · rw [if_pos hbad] at hWL2
    rw [hWL2]
    clear hWL2
    show Calls _ _ _ w (Got (.tuple #[.agg #[.bool false, .int .u64 0, .int .u64 0], .bool false]) w)
    cases gap with
    | false =>
      have hne : ¬ F + G = 8 := by rcases hbad with ⟨_, h⟩ | ⟨h, _⟩ <;> simp_all
      have h1 : ((F : Int) + (G : Int) != 8) = true := by simp; omega
      have h2 : ((F : Int) + (G : Int) == 8) = false := by simp; omega
      clear hbad hne
      go_enter Tryz.func45, Tryz.ntmps45
      go_wp2_with fail
      exact bodyPost_ret (results_ct rfl rfl rfl (load_ad (Blk.new _ _ _))) rfl ⟨rfl, boxed _ _⟩
    | true =>
      have hne : 7 < F + G := by rcases hbad with ⟨h, _⟩ | ⟨_, h⟩ <;> simp_all
      have h1 : (7 : Int) < (F : Int) + (G : Int) := by omega
      clear hbad hne
      go_enter Tryz.func45, Tryz.ntmps45
      go_wp2_with fail
      exact bodyPost_ret (results_ct rfl rfl rfl (load_ad (Blk.new _ _ _))) rfl ⟨rfl, boxed _ _⟩
  · rw [if_neg hbad] at hWL2
    have hFG : F + G ≤ 8 := by cases gap <;> simp at hbad <;> omega
    have h1 : gap = false → ((F : Int) + (G : Int) != 8) = false := fun h => by subst h; simp at hbad; simp; omega
    have h2 : gap = true → ¬ (7 : Int) < (F : Int) + (G : Int) := fun h => by subst h; simp at hbad; omega
    obtain ⟨K, hK⟩ : ∃ k, k = 8 - (F + G) := ⟨_, rfl⟩
    have hall : ∃ A : List Nat, A = f ++ List.replicate K 0 ++ b ∧ A.length = 8 ∧ (∀ x ∈ A, x < 65536) ∧ cellsU A = cellsU f ++ List.replicate K (.int .u64 0) ++ cellsU b := by
      refine ⟨_, rfl, ?_, ?_, ?_⟩
      · rw [List.length_append, List.length_append, List.length_replicate, ← HF.out, ← HG.out]
        omega
      · intro x hx
        rcases List.mem_append.1 hx with hx | hx
        · rcases List.mem_append.1 hx with hx | hx
          · exact hfx x hx
          · rw [(List.mem_replicate.1 hx).2]; decide
        · exact hbx x hx
      · simp [cellsU]
    rw [← hK] at hWL2
    obtain ⟨ALL, hA, hA8, hAx, hAc⟩ := hall
    rw [← hA] at hWL2
    rw [hWL2]
    show Calls _ _ _ w (Got (.tuple #[.agg #[.bool true, .int .u64 (fold16 (ALL.take 4) : Int), .int .u64 (fold16 (ALL.drop 4) : Int)], .bool true]) w)
    have eK : (8 : Int) - ((F : Int) + (G : Int)) = (K : Int) := by omega
    have HAc := Lib.hid hAc
    have HA8 := Lib.hid hA8
    have HAx := Lib.hid hAx
    have HK := Lib.hid hK
    have hz3 : (Value.int IntKind.u64 0).cells = #[.int .u64 0] := rfl
    have HZ3 := Lib.hid hz3
    clear hWL2 hA hA8 hAx hAc hK hbad hz3
    have hclone := fun o => clone_any (w := w.alloc o) f (by rw [← HF.out]; exact Hof.out.alloc o) (by rw [← HF.out]; omega)
    rw [← HF.out] at hclone
    have HCl := Lib.hid hclone
    clear hclone
    obtain ⟨v0, hv0⟩ : ∃ v, v = w.alloc (.cells #[.bool false, .int .u64 0, .int .u64 0] 24) := ⟨_, rfl⟩
    rw [← hv0] at hB0 hb0
    have hsz0 : v0.heap.size = w.heap.size + 1 := by rw [hv0]; simp
    have HCl := Lib.hid (HCl.out (.cells #[.bool false, .int .u64 0, .int .u64 0] 24))
    rw [← hv0] at HCl
    have HB0 := Lib.hid hB0
    have Hb0 := Lib.hid hb0
    have Hv0 := Lib.hid hv0
    clear hB0 hb0 hv0
    cases gap
    all_goals
      first
        | (have h3 := h1 rfl)
        | (have h3 := h2 rfl)
      clear h1 h2
      go_enter Tryz.func45, Tryz.ntmps45
      go_wp2_with (go_at_call 75; fail)
      rw [← Hv0.out]
      refine HCl.out.mono ?_
      rintro r w1 ⟨⟨v1, rfl, ho1⟩, hb1⟩
      have Ho1 := Lib.hid ho1
      have HB1 := Lib.hid (HB0.out.below hb1 HB0.out.lt)
      have Hb1 := Lib.hid (after Hb0.out hb1)
      have hsz1 : w.heap.size + 1 ≤ w1.heap.size := by have := hb1.size; omega
      clear ho1 hb1
      go_upto_region 5 with (first
        | (at_builtin; obtain ⟨v2, w2, hr2, ho2, hg2⟩ := run_append_make (P := Tryz.prog) w1 v0.heap.size 61 3 61 22 i0 (.int .u64 0) Tryz.underlying61 Tryz.underlying3 hi hz0 hz1 hz2 HZ3.out rfl v1 F (cellsU f) Ho1.out K (by omega) (by omega) (by omega); refine step_append rfl _ _ _ _ rfl rfl rfl hr2 ?_; have HB2 := Lib.hid (HB1.out.grown hg2 (fun e => by have := (Ho1.out.lt _ e.symm).1; omega)); have Hb2 := Lib.hid (Hb1.out.grown hg2 (by omega) (fun q hq => by have := (Ho1.out.lt q hq).1; omega)); have hsz2 : w.heap.size + 1 ≤ w2.heap.size := Nat.le_trans hsz1 hg2.size; have Ho2 := Lib.hid ho2; clear hr2 ho2 hg2)
        | (at_builtin; obtain ⟨v3, w3, hr3, ho3, hg3⟩ := run_append_two (P := Tryz.prog) w2 v0.heap.size bb 61 61 22 i0 (.int .u64 0) Tryz.underlying61 hi hz0 hz1 hz2 rfl v2 (F + K) _ Ho2.out (.slice Ab G capb) G (cellsU b) (own_below Hob.out Hb2.out) (fun x hx => by obtain ⟨y, _, rfl⟩ := List.mem_map.1 hx; rfl) (by omega) (by omega) (by omega); refine step_append rfl _ _ _ _ rfl rfl rfl hr3 ?_; have HB3 := Lib.hid (HB2.out.grown hg3 (fun e => by have := (Ho2.out.lt _ e.symm).1; omega)); have Hb3 := Lib.hid (Hb2.out.grown hg3 (by omega) (fun q hq => by have := (Ho2.out.lt q hq).1; omega)); have hsz3 : w.heap.size + 1 ≤ w3.heap.size := Nat.le_trans hsz2 hg3.size; have Ho3 := Lib.hid ho3; clear hr3 ho3 hg3))
      have hrow : w3.ownsRow v0.heap.size 22 1 v3 (7 + 1) (cellsU ALL) := by
        have h := Ho3.out
        rw [show F + K + G = 7 + 1 by omega] at h
        rw [HAc.out]
        exact h
      obtain ⟨ga, cap, rfl⟩ := own_form hrow
      have hga := hrow.lt ga rfl
      have c0 := HB3.out.cell 0
      have f0 := HB3.out.frozen 0
      simp at c0
      have Hrow := Lib.hid hrow
      clear hrow
      go_wp2_with fail
      have hB4 : Blk (w3.setCell ⟨w.heap.size, 0, none⟩ (.bool true)) w.heap.size 24 #[.bool true, .int .u64 0, .int .u64 0] := HB3.out.set_ 0 _
      have hb4 := Hb3.out.setCell (p := ⟨w.heap.size, 0, none⟩) (Nat.le_refl _) (.bool true)
      have hr4 : ∀ j (hj : j < 8), (w3.setCell ⟨w.heap.size, 0, none⟩ (.bool true)).cell? ⟨ga, j, none⟩ = some (.int .u64 (ALL.getD j 0 : Int)) := by
        intro j hj
        rw [cell_far (by show w.heap.size ≠ ga; omega), Hrow.out.cellAt (g := ga) (cap := cap) j (by omega)]
        unfold cellsU
        have hjl : j < ALL.length := by have := HA8.out; omega
        rw [List.getElem?_map, List.getElem?_eq_getElem hjl, List.getD_eq_getElem?_getD, List.getElem?_eq_getElem hjl]
        rfl
      generalize w3.setCell ⟨w.heap.size, 0, none⟩ (.bool true) = w4 at hB4 hb4 hr4 ⊢
      have HB4 := Lib.hid hB4
      have Hb4 := Lib.hid hb4
      have Hr4 := Lib.hid hr4
      clear hB4 hb4 hr4 c0 f0
      go_loopw [41] (fun v41 wr => ∃ k : Nat, k ≤ 8 ∧ v41 = .int .i64 (k : Int) ∧ RowKit.Hid (Blk wr w.heap.size 24 #[.bool true, .int .u64 (fold16 ((ALL.take k).take 4) : Int), .int .u64 (fold16 ((ALL.take k).drop 4) : Int)]) ∧ RowKit.Hid (∀ j (hj : j < 8), wr.cell? ⟨ga, j, none⟩ = some (.int .u64 (ALL.getD j 0 : Int))) ∧ RowKit.Hid (Below w.heap.size w wr)) (fun v41 _ => 8 - (intOf v41).toNat)
      case atStart => exact ⟨0, by omega, rfl, HB4, Hr4, Hb4⟩
      case round =>
        obtain ⟨k, hk, rfl, hB, hr, hb⟩ := hrel
        by_cases hlt : k < 8
        · have hkl : k < ALL.length := by have := HA8.out; omega
          have cx := hr.out k hlt
          have hX : ALL.getD k 0 < 65536 := by
            rw [List.getD_eq_getElem?_getD, List.getElem?_eq_getElem hkl]
            exact HAx.out _ (List.getElem_mem hkl)
          have a1 := hB.out.cell 1
          have a2 := hB.out.cell 2
          have fr := fun i => hB.out.frozen i
          simp at a1 a2
          have hfold := fold_step16 (A := ALL) hkl HAx.out
          generalize ALL.getD k 0 = X at cx hX hfold
          obtain ⟨hnx, hh, hl⟩ := hfold
          have Hnx := Lib.hid hnx
          have Hc := Lib.hid hr.out
          have hr' := fun (u : Value) (i : Nat) j (hj : j < 8) => (cell_far (w := wr) (a := ⟨w.heap.size, i, none⟩) (c := ⟨ga, j, none⟩) (u := u) (by show w.heap.size ≠ ga; omega)).trans (hr.out j hj)
          have Hr' := Lib.hid hr'
          clear hnx hr'
          obtain ⟨H0, hH0⟩ : ∃ n, n = fold16 ((ALL.take k).take 4) := ⟨_, rfl⟩
          obtain ⟨L0, hL0⟩ : ∃ n, n = fold16 ((ALL.take k).drop 4) := ⟨_, rfl⟩
          rw [← hH0] at hh a1
          rw [← hL0] at hl a2
          have HH0 := Lib.hid hH0
          have HL0 := Lib.hid hL0
          clear hH0 hL0
          by_cases h4 : k < 4
          · have hb48 := hh h4
            have ho := or16 hb48 hX
            have hw : IntKind.u64.wrap ((H0 : Int) * 65536) = (H0 : Int) * 65536 := by rw [IntKind.wrap_u64]; omega
            have h4' : (k : Int) < 4 := by omega
            clear hh hl
            go_wp2_with fail
            go_roundw
            case rel =>
              have hs := hB.out.set_ 1 (.int .u64 ((H0 * 65536 + X : Nat) : Int))
              have hn := Hnx.out
              rw [if_pos h4, ← HH0.out] at hn
              exact ⟨k + 1, by omega, by go_num, Lib.hid (by rw [hn.1, hn.2]; exact hs), Lib.hid (Hr'.out _ 1), Lib.hid (hb.out.setCell (p := ⟨w.heap.size, 1, none⟩) (Nat.le_refl _) _)⟩
            case measure => simp [intOf]; omega
          · have hb48 := hl hlt
            have ho := or16 hb48 hX
            have hw : IntKind.u64.wrap ((L0 : Int) * 65536) = (L0 : Int) * 65536 := by rw [IntKind.wrap_u64]; omega
            have h4' : ¬ (k : Int) < 4 := by omega
            clear hh hl
            go_wp2_with fail
            go_roundw
            case rel =>
              have hs := hB.out.set_ 2 (.int .u64 ((L0 * 65536 + X : Nat) : Int))
              have hn := Hnx.out
              rw [if_neg h4, ← HL0.out] at hn
              exact ⟨k + 1, by omega, by go_num, Lib.hid (by rw [hn.1, hn.2 hlt]; exact hs), Lib.hid (Hr'.out _ 2), Lib.hid (hb.out.setCell (p := ⟨w.heap.size, 2, none⟩) (Nat.le_refl _) _)⟩
            case measure => simp [intOf]; omega
        · obtain rfl : k = 8 := by omega
          have hB8 := hB.out
          rw [show ALL.take 8 = ALL from List.take_of_length_le (by have := HA8.out; omega)] at hB8
          have c0 := hB8.cell 0
          have c1 := hB8.cell 1
          have c2 := hB8.cell 2
          simp at c0 c1 c2
          have fr := fun i => hB8.frozen i
          have HB8 := Lib.hid hB8
          clear hB8
          go_wp2_with fail
          exact ret_ad3 (g := w.heap.size) (x := 6) (y := 7) rfl HB8.out hb.out (Nat.le_refl _) rfl rfl rfl
end Go.Proofs.YtomndcjgdfhmbaaGreatDoor

/- Texts of addresses, the program's: the eight numbers of an address of IPv6; an address of IPv4: the walks. -/
namespace Go.Proofs.YtomndcjgdfhmbaaGreatDoor
open Go.RowKit

def halfOf (a : Ad) (k : Nat) : Nat := if k < 4 then a.hi else a.lo
theorem piece_at (a : Ad) (k : Nat) (hk : k < 8) : (pieceL a).getD k 0 = halfOf a k / 2 ^ (48 - 16 * (k % 4)) % 65536 := by
  unfold halfOf pieceL
  rcases (show k = 0 ∨ k = 1 ∨ k = 2 ∨ k = 3 ∨ k = 4 ∨ k = 5 ∨ k = 6 ∨ k = 7 by omega) with rfl | rfl | rfl | rfl | rfl | rfl | rfl | rfl <;> simp
theorem and3 (k : Nat) (hk : k < 8) : bits .and .i64 (k : Int) 3 = ((k % 4 : Nat) : Int) := by
  rcases (show k = 0 ∨ k = 1 ∨ k = 2 ∨ k = 3 ∨ k = 4 ∨ k = 5 ∨ k = 6 ∨ k = 7 by omega) with rfl | rfl | rfl | rfl | rfl | rfl | rfl | rfl <;> kernel_rfl

/- Eight numbers, the first k of them laid. -/
def prow (K : IntKind) (L : List Nat) (k : Nat) : Array Value := ((List.range 8).map fun j => Value.int K (if j < k then (L.getD j 0 : Int) else 0)).toArray
theorem prow_zero (K : IntKind) (L : List Nat) : prow K L 0 = Array.replicate 8 (.int K 0) := by
  unfold prow
  apply Array.ext
  · simp
  · intro i h1 h2
    simp
theorem prow_set (K : IntKind) (L : List Nat) (k : Nat) (hk : k < 8) : (prow K L k).setIfInBounds k (.int K (L.getD k 0 : Int)) = prow K L (k + 1) := by
  unfold prow
  apply Array.ext
  · simp
  · intro i h1 h2
    simp only [Array.size_setIfInBounds, List.size_toArray, List.length_map, List.length_range] at h1
    rw [Array.getElem_setIfInBounds (by simpa using h1)]
    simp only [List.getElem_toArray, List.getElem_map, List.getElem_range]
    by_cases h : k = i
    · subst h
      rw [if_pos rfl, if_pos (by omega)]
    · rw [if_neg h]
      by_cases h3 : i < k
      · rw [if_pos h3, if_pos (by omega)]
      · rw [if_neg h3, if_neg (by omega)]
theorem prow_at (K : IntKind) (L : List Nat) (k j : Nat) (hj : j < 8) : (prow K L k)[j]? = some (.int K (if j < k then (L.getD j 0 : Int) else 0)) := by
  unfold prow
  rw [Array.getElem?_eq_getElem (by simpa using hj)]
  simp
theorem prow_eight (K : IntKind) (L : List Nat) : prow K L 8 = #[.int K (L.getD 0 0 : Int), .int K (L.getD 1 0 : Int), .int K (L.getD 2 0 : Int), .int K (L.getD 3 0 : Int), .int K (L.getD 4 0 : Int), .int K (L.getD 5 0 : Int), .int K (L.getD 6 0 : Int), .int K (L.getD 7 0 : Int)] := rfl

theorem load_eight {w : World} {g : Nat} {v0 v1 v2 v3 v4 v5 v6 v7 : Value} (h : Blk w g 71 #[v0, v1, v2, v3, v4, v5, v6, v7]) : (loadVar 71 ⟨g, 0, none⟩).run Tryz.prog w = .ok (.agg #[v0, v1, v2, v3, v4, v5, v6, v7]) w := by
  have c0 := h.cell 0
  have c1 := h.cell 1
  have c2 := h.cell 2
  have c3 := h.cell 3
  have c4 := h.cell 4
  have c5 := h.cell 5
  have c6 := h.cell 6
  have c7 := h.cell 7
  simp at c0 c1 c2 c3 c4 c5 c6 c7
  simp [loadVar, go_sem, c0, c1, c2, c3, c4, c5, c6, c7]
theorem ret_eight {fn : Func} {a : Act} {W w : World} {g x : Nat} {z0 z1 z2 z3 z4 z5 z6 z7 v0 v1 v2 v3 v4 v5 v6 v7 : Value} (hres : fn.results = #[.cell x 71]) (hB : Blk w g 71 #[z0, z1, z2, z3, z4, z5, z6, z7]) (hb : Below W.heap.size W w) (hg : W.heap.size ≤ g) (h1 : a.tmps.getD x undef = .pointer (some ⟨g, 0, none⟩)) (hd : a.defers = []) :
    bodyPost Tryz.prog fn (Got (.agg #[v0, v1, v2, v3, v4, v5, v6, v7]) W) .ret a ((((((((w.setCell ⟨g, 0, none⟩ v0).setCell ⟨g, 1, none⟩ v1).setCell ⟨g, 2, none⟩ v2).setCell ⟨g, 3, none⟩ v3).setCell ⟨g, 4, none⟩ v4).setCell ⟨g, 5, none⟩ v5).setCell ⟨g, 6, none⟩ v6).setCell ⟨g, 7, none⟩ v7) := by
  have s0 : Blk (w.setCell ⟨g, 0, none⟩ v0) g 71 #[v0, z1, z2, z3, z4, z5, z6, z7] := hB.set_ 0 v0
  have s1 : Blk ((w.setCell ⟨g, 0, none⟩ v0).setCell ⟨g, 1, none⟩ v1) g 71 #[v0, v1, z2, z3, z4, z5, z6, z7] := s0.set_ 1 v1
  have s2 : Blk (((w.setCell ⟨g, 0, none⟩ v0).setCell ⟨g, 1, none⟩ v1).setCell ⟨g, 2, none⟩ v2) g 71 #[v0, v1, v2, z3, z4, z5, z6, z7] := s1.set_ 2 v2
  have s3 : Blk ((((w.setCell ⟨g, 0, none⟩ v0).setCell ⟨g, 1, none⟩ v1).setCell ⟨g, 2, none⟩ v2).setCell ⟨g, 3, none⟩ v3) g 71 #[v0, v1, v2, v3, z4, z5, z6, z7] := s2.set_ 3 v3
  have s4 : Blk (((((w.setCell ⟨g, 0, none⟩ v0).setCell ⟨g, 1, none⟩ v1).setCell ⟨g, 2, none⟩ v2).setCell ⟨g, 3, none⟩ v3).setCell ⟨g, 4, none⟩ v4) g 71 #[v0, v1, v2, v3, v4, z5, z6, z7] := s3.set_ 4 v4
  have s5 : Blk ((((((w.setCell ⟨g, 0, none⟩ v0).setCell ⟨g, 1, none⟩ v1).setCell ⟨g, 2, none⟩ v2).setCell ⟨g, 3, none⟩ v3).setCell ⟨g, 4, none⟩ v4).setCell ⟨g, 5, none⟩ v5) g 71 #[v0, v1, v2, v3, v4, v5, z6, z7] := s4.set_ 5 v5
  have s6 : Blk (((((((w.setCell ⟨g, 0, none⟩ v0).setCell ⟨g, 1, none⟩ v1).setCell ⟨g, 2, none⟩ v2).setCell ⟨g, 3, none⟩ v3).setCell ⟨g, 4, none⟩ v4).setCell ⟨g, 5, none⟩ v5).setCell ⟨g, 6, none⟩ v6) g 71 #[v0, v1, v2, v3, v4, v5, v6, z7] := s5.set_ 6 v6
  have s7 : Blk ((((((((w.setCell ⟨g, 0, none⟩ v0).setCell ⟨g, 1, none⟩ v1).setCell ⟨g, 2, none⟩ v2).setCell ⟨g, 3, none⟩ v3).setCell ⟨g, 4, none⟩ v4).setCell ⟨g, 5, none⟩ v5).setCell ⟨g, 6, none⟩ v6).setCell ⟨g, 7, none⟩ v7) g 71 #[v0, v1, v2, v3, v4, v5, v6, v7] := s6.set_ 7 v7
  exact bodyPost_ret (results_c hres h1 (load_eight s7)) hd ⟨rfl, ((((((((hb.setCell (p := ⟨g, 0, none⟩) hg v0).setCell (p := ⟨g, 1, none⟩) hg v1).setCell (p := ⟨g, 2, none⟩) hg v2).setCell (p := ⟨g, 3, none⟩) hg v3).setCell (p := ⟨g, 4, none⟩) hg v4).setCell (p := ⟨g, 5, none⟩) hg v5).setCell (p := ⟨g, 6, none⟩) hg v6).setCell (p := ⟨g, 7, none⟩) hg v7)⟩

set_option maxHeartbeats 1000000 in
theorem pieces_any (a : Ad) (ok : a.Ok) (w : World) : Calls Tryz.prog 48 #[.agg a.cells] w (Got (.agg (prow .u16 (pieceL a) 8)) w) := by
  have HP := fun k hk => piece_at a k hk
  have hh := ok.hi
  have hl := ok.lo
  have HS : ∀ k, prow .u16 (pieceL a) k = prow .u16 (pieceL a) k := fun _ => rfl
  have hset := fun k hk => prow_set .u16 (pieceL a) k hk
  generalize pieceL a = L at HP hset ⊢
  obtain ⟨RV, hRV⟩ : ∃ r, r = prow .u16 L 8 := ⟨_, rfl⟩
  rw [← hRV]
  have HRV := Lib.hid hRV
  clear hRV
  clear HS ok
  have HP := Lib.hid HP
  have Hset := Lib.hid hset
  clear hset
  unfold halfOf at HP
  obtain ⟨v, x, l⟩ := a
  unfold Ad.cells
  simp only at hh hl HP ⊢
  go_enter Tryz.func48, Tryz.ntmps48
  go_wp2_with fail
  go_loopw [5] (fun i wr => ∃ k : Nat, k ≤ 8 ∧ i = .int .i64 (k : Int) ∧ RowKit.Hid (Blk wr w.heap.size 24 #[.bool v, .int .u64 (x : Int), .int .u64 (l : Int)]) ∧ RowKit.Hid (Blk wr (w.heap.size + 1) 71 (prow .u16 L k)) ∧ RowKit.Hid (Below w.heap.size w wr)) (fun i _ => 8 - (intOf i).toNat)
  case atStart =>
    have hz : (#[.int .u16 0, .int .u16 0, .int .u16 0, .int .u16 0, .int .u16 0, .int .u16 0, .int .u16 0, .int .u16 0] : Array Value) = Array.replicate 8 (.int .u16 0) := rfl
    have hz0 : Blk ((w.alloc (.cells #[.bool v, .int .u64 (x : Int), .int .u64 (l : Int)] 24)).alloc (.cells #[.int .u16 0, .int .u16 0, .int .u16 0, .int .u16 0, .int .u16 0, .int .u16 0, .int .u16 0, .int .u16 0] 71)) (w.heap.size + 1) 71 (prow .u16 L 0) := by
      rw [prow_zero, ← hz]
      have h := Blk.new (w.alloc (.cells #[.bool v, .int .u64 (x : Int), .int .u64 (l : Int)] 24)) 71 #[.int .u16 0, .int .u16 0, .int .u16 0, .int .u16 0, .int .u16 0, .int .u16 0, .int .u16 0, .int .u16 0]
      simpa using h
    exact ⟨0, by omega, rfl, Lib.hid ((Blk.new _ _ _).alloc _), Lib.hid hz0, Lib.hid (two_boxed _ _ _)⟩
  case round =>
    obtain ⟨k, hk, rfl, hA, hR, hb⟩ := hrel
    by_cases hlt : k < 8
    · have e1 := and3 k hlt
      obtain ⟨q, hq, hq3⟩ : ∃ q, q = k % 4 ∧ q < 4 := ⟨_, rfl, Nat.mod_lt _ (by decide)⟩
      rw [← hq] at e1
      have e2 : ((48 : Int) - 16 * (q : Int)).toNat = 48 - 16 * q := by omega
      have hp := HP.out k hlt
      rw [← hq] at hp
      have a1 := hA.out.cell 1
      have a2 := hA.out.cell 2
      have hcell := (hR.out.cell k).trans (prow_at .u16 L k k hlt)
      have hfr := hR.out.frozen k
      simp at a1 a2
      have hset := Hset.out k hlt
      have wv : ∀ y : Nat, IntKind.u16.wrap ((y : Int) / 2 ^ (48 - 16 * q)) = ((y / 2 ^ (48 - 16 * q) % 65536 : Nat) : Int) := by
        intro y
        rw [shr_nat]
        generalize y / 2 ^ (48 - 16 * q) = Y
        simp [IntKind.wrap_u16]
      by_cases h4 : k < 4
      all_goals
        first | rw [if_pos h4] at hp | rw [if_neg h4] at hp
        first
          | (have h4' : ¬ (3 : Int) < (k : Int) := by omega)
          | (have h4' : (3 : Int) < (k : Int) := by omega)
        have Hp := Lib.hid hp
        have Hset1 := Lib.hid hset
        have Wv := Lib.hid wv
        clear hp hq hset wv
        go_wp2_with fail
        go_roundw
        case rel =>
          rw [Wv.out, ← Hp.out]
          exact ⟨k + 1, by omega, by go_num, Lib.hid (hA.out.far (p := ⟨w.heap.size + 1, k, none⟩) (by simp) _), Lib.hid (by rw [← Hset1.out]; exact hR.out.set_ k _), Lib.hid (hb.out.setCell (p := ⟨w.heap.size + 1, k, none⟩) (by simp) _)⟩
        case measure => simp [intOf]; omega
    · obtain rfl : k = 8 := by omega
      have hR8 := hR.out
      have hRV := HRV.out
      rw [prow_eight] at hR8 hRV
      generalize L.getD 0 0 = p0 at hR8 hRV
      generalize L.getD 1 0 = p1 at hR8 hRV
      generalize L.getD 2 0 = p2 at hR8 hRV
      generalize L.getD 3 0 = p3 at hR8 hRV
      generalize L.getD 4 0 = p4 at hR8 hRV
      generalize L.getD 5 0 = p5 at hR8 hRV
      generalize L.getD 6 0 = p6 at hR8 hRV
      generalize L.getD 7 0 = p7 at hR8 hRV
      have c0 := hR8.cell 0
      have c1 := hR8.cell 1
      have c2 := hR8.cell 2
      have c3 := hR8.cell 3
      have c4 := hR8.cell 4
      have c5 := hR8.cell 5
      have c6 := hR8.cell 6
      have c7 := hR8.cell 7
      simp at c0 c1 c2 c3 c4 c5 c6 c7
      have fr := fun i => hR8.frozen i
      have HR8 := Lib.hid hR8
      have HRV2 := Lib.hid hRV
      clear hR8 hRV
      go_wp2_with fail
      rw [HRV2.out]
      exact ret_eight (g := w.heap.size + 1) (x := 2) rfl HR8.out hb.out (by simp) rfl rfl
end Go.Proofs.YtomndcjgdfhmbaaGreatDoor
