/- New, Clone, Copy: the walks. -/
import Derived.Test.YticckhcdbcbooaaWinC
import Derived.Laws.MakeOwn
namespace Go.Proofs.Yticckhcdbcbooaa
open Go.RowKit Win

theorem run_make_rowN {P : Program} (t e : TypeId) (i : TypeInfo) (z : Value) (ht : P.underlying t = some (.slice e)) (hi : P.info? e = some i) (hz : i.zero = some z)
    (kl kc : IntKind) (n c : Nat) (hnc : n ≤ c) (hbytes : i.bytes * c ≤ 281474976710656) (h63 : c ≤ 9223372036854775807) (w : World) :
    (Instr.makeSlice t (.int kl (n : Int)) (.int kc (c : Int))).run P w = .ok (.slice (some ⟨w.heap.size, 0, none⟩) n c) (w.alloc (.cells (madeCells z.cells (c * i.size)) e)) := by
  have hb : (i.bytes : Int) * (c : Int) ≤ 281474976710656 := by
    have h : ((i.bytes * c : Nat) : Int) ≤ 281474976710656 := by omega
    rwa [Int.natCast_mul] at h
  have hr := run_make (P := P) w t e i z ht hi hz kl kc n c (by omega) (by omega) hb (by omega)
  simp only [Int.toNat_natCast] at hr
  exact hr

theorem info28 : (Try.prog.info? 28).map (fun i => (i.zero, i.size, i.bytes)) = some (some (.int .u64 0), 1, 8) := by kernel_rfl

def zeros (n : Nat) : Array Value := Array.replicate n (.int .u64 0)

theorem make28 (n : Nat) (hn : n ≤ 4096) (w : World) : (Instr.makeSlice 22 (.int .i64 (n : Int)) (.int .i64 (n : Int))).run Try.prog w = .ok (.slice (some ⟨w.heap.size, 0, none⟩) n n) (w.alloc (.cells (zeros n) 28)) := by
  obtain ⟨i0, hi0, hz0, hz1, hz2⟩ := info_parts info28
  have h := run_make_rowN (P := Try.prog) 22 28 i0 _ Try.underlying22 hi0 hz0 .i64 .i64 n n (Nat.le_refl _) (by rw [hz2]; omega) (by omega) w
  rw [h, hz1]
  congr 3
  unfold zeros madeCells
  apply Array.ext
  · simp
  · intro i h1 h2
    simp [Value.cells, Nat.mod_one]

def St.new (size : Nat) : St := { size := size, high := 0, any := false, set := fun _ => false }

set_option maxHeartbeats 400000 in
theorem new_no (size : Int) (w : World) (h : size < 1 ∨ 4096 < size) :
    Calls Try.prog 6 #[.int .i64 size] w fun e w' => e = .returned (.tuple #[.pointer none, .int .i64 2]) ∧ w = w' := by
  by_cases h1 : size < 1
  · go_enter Try.func6, Try.ntmps6
    go_wp2
    go_ret2
    exact ⟨rfl, rfl⟩
  · have h2 : 4096 < size := by omega
    go_enter Try.func6, Try.ntmps6
    go_wp2
    go_ret2
    exact ⟨rfl, rfl⟩

set_option maxHeartbeats 400000 in
theorem new_yes (size : Nat) (w : World) (h1 : 1 ≤ size) (h2 : size ≤ 4096) :
    Calls Try.prog 6 #[.int .i64 (size : Int)] w fun e w' => e = .returned (.tuple #[.pointer (some ⟨w.heap.size + 1, 0, none⟩), .int .i64 0]) ∧ Rep w' (w.heap.size + 1) w.heap.size (St.new size) ∧ Below w.heap.size w w' ∧ w'.heap.size = w.heap.size + 2 := by
  have hmk := make28 ((size + 63) / 64) (by omega)
  rw [show (((size + 63) / 64 : Nat) : Int) = ((size : Int) + 63) / 64 from by omega] at hmk
  go_enter Try.func6, Try.ntmps6
  go_wp2
  go_ret2
  refine ⟨rfl, ⟨h1, h2, by show (0 : Nat) < _; omega, (size + 63) / 64, (size + 63) / 64, zeros ((size + 63) / 64), rfl, Nat.le_refl _, by simp [zeros], ?_, ?_, ?_⟩, ?_, ?_⟩
  · have hb := Blk.new (w.alloc (.cells (zeros ((size + 63) / 64)) 28)) 42 #[.int .u64 (size : Int), .slice (some ⟨w.heap.size, 0, none⟩) ((size + 63) / 64) ((size + 63) / 64), .int .u64 0, .bool false]
    rw [World.size_alloc] at hb
    exact hb
  · exact (Blk.new w 28 _).alloc _
  · intro i hi
    have hi' : i * 64 < size := hi
    refine ⟨0, by omega, ?_, fun j _ _ => by simp [St.new]⟩
    have : i < (size + 63) / 64 := by omega
    simp [zeros, this]
  · exact ((Below.refl _ _).alloc (Nat.le_refl _) _).alloc (by simp) _
  · simp

/- slices.Clone of the bits. -/
set_option maxHeartbeats 400000 in
theorem clone_any (bb n c : Nat) (cs : Array Value) (w : World) (hb : Blk w bb 28 cs) (hn : 0 < n) (hc : n ≤ cs.size) (hn2 : n ≤ 4096) (h1 : ∀ u ∈ cs.toList.take n, u.oneCell' = true) :
    Calls Try.prog 17 #[.slice (some ⟨bb, 0, none⟩) n c] w fun e w' => ∃ (g cap : Nat) (cur : Array Value), e = .returned (.slice (some ⟨g, 0, none⟩) n cap) ∧ Blk w' g 28 cur ∧ n ≤ cap ∧ cur.size = cap ∧ cur.toList.take n = cs.toList.take n ∧ w.heap.size ≤ g ∧ Below w.heap.size w w' := by
  have q := q22
  obtain ⟨i0, hi0, hz0, hz1, hz2⟩ := info_parts info28
  have hown : (w.alloc (.cells #[] 28)).ownsRow w.heap.size 28 1 (.slice (some ⟨w.heap.size, 0, none⟩) 0 0) 0 [] := World.ownsRow_made w #[] 0 (Nat.le_refl _) (by simp [maxLen]) rfl
  have hb1 := hb.alloc (.cells #[] 28)
  have hsz : (cs.toList.take n).length = n * 1 := by simp; omega
  have hnews : ∀ j u, (cs.toList.take n)[j]? = some u → (w.alloc (.cells #[] 28)).cell? ((⟨bb, 0, none⟩ : Addr).add j) = some u := by
    intro j u hu
    have e : (⟨bb, 0, none⟩ : Addr).add j = ⟨bb, j, none⟩ := by unfold Addr.add; split <;> simp_all
    rw [e, hb1.cell j]
    rw [List.getElem?_take] at hu
    split at hu
    · simpa using hu
    · cases hu
  have Hsz := Lib.hid hsz
  have Hnews := Lib.hid hnews
  clear hsz hnews hb1
  go_enter Try.func17, Try.ntmps17
  go_wp2_with (at_builtin; refine wpList_append_own _ rfl (.tmp 5) (.tmp 6) _ rfl w.heap.size 28 i0 _ 1 8 Try.underlying22 hi0 hz0 hz1 hz2 rfl (by omega) (.slice (some ⟨w.heap.size, 0, none⟩) 0 0) 0 [] rfl hown ⟨bb, 0, none⟩ n c (cs.toList.take n) rfl Hsz.out Hnews.out h1 (by simp only [maxLen]; omega) (by omega) (by simp) ?_; intro v' w' hown' hgrow _)
  go_ret
  rcases hown'.2 with ⟨_, h0⟩ | ⟨g, cap, cur, rfl, hg, hh, hnc, _, hcs, ht⟩
  · omega
  refine ⟨g, cap, cur, by simp, hh, by omega, by simpa using hcs, by simpa using ht, hg, ?_⟩
  exact ((Below.refl _ _).alloc (Nat.le_refl _) _).grown hgrow (by simp) (by simp [Value.ownBlock])

set_option maxHeartbeats 400000 in
theorem copy_nil (w : World) : Calls Try.prog 9 #[.pointer none] w fun e w' => e = .returned (.pointer none) ∧ w = w' := by
  go_enter Try.func9, Try.ntmps9
  go_wp2_with (go_at_call 16; refine (none_nil _).mono ?_; rintro e w' ⟨rfl, rfl⟩)
  go_ret
  exact ⟨rfl, rfl⟩

set_option maxHeartbeats 400000 in
theorem copy_rep (b bb : Nat) (s : St) (w : World) (h : Rep w b bb s) :
    Calls Try.prog 9 #[.pointer (some ⟨b, 0, none⟩)] w fun e w' => ∃ b' bb', e = .returned (.pointer (some ⟨b', 0, none⟩)) ∧ Rep w' b' bb' s ∧ Below w.heap.size w w' ∧ w.heap.size ≤ b' ∧ w.heap.size ≤ bb' := by
  have hh := h
  obtain ⟨h1, h2, h3, nw, cap, cs, h4, h5, h6, h7, h8, h9⟩ := h
  have c0 : w.cell? ⟨b, 0, none⟩ = some (.int .u64 (s.size : Int)) := h7.cell 0
  have c1 : w.cell? ⟨b, 1, none⟩ = some (.slice (some ⟨bb, 0, none⟩) nw cap) := h7.cell 1
  have c2 : w.cell? ⟨b, 2, none⟩ = some (.int .u64 (s.high : Int)) := h7.cell 2
  have c3 : w.cell? ⟨b, 3, none⟩ = some (.bool s.any) := h7.cell 3
  have hb := h7.lt
  have hnw : 0 < nw := by omega
  have hnw2 : nw ≤ 4096 := by omega
  have hnw3 : s.size ≤ nw * 64 := by omega
  have one : ∀ u ∈ cs.toList.take nw, u.oneCell' = true := by
    intro u hu
    obtain ⟨i, hi⟩ := List.getElem?_of_mem hu
    rw [List.getElem?_take] at hi
    split at hi
    · rename_i hlt
      obtain ⟨x, hx, hcx, _⟩ := h9 i (by omega)
      rw [show cs.toList[i]? = cs[i]? from by simp, hcx] at hi
      injection hi with hi
      rw [← hi]
      rfl
    · cases hi
  have H4 := Lib.hid h4
  have H6 := Lib.hid h6
  have Hone := Lib.hid one
  clear h4 h6 one
  go_enter Try.func9, Try.ntmps9
  go_wp2_with (go_at_call 16; refine (none_some _ _ _ _ _ c1).mono ?_; rintro e w' ⟨rfl, rfl⟩)
  refine (clone_any bb nw cap cs _ (by exact h8.alloc _) hnw (by rw [H6.out]; exact h5) hnw2 Hone.out).mono ?_
  rintro e w1 ⟨g, cap', cur, rfl, hg, k1, k2, k3, k4, k5⟩
  have hB : Blk w1 w.heap.size 42 #[.int .u64 (s.size : Int), .slice (some ⟨bb, 0, none⟩) nw cap, .int .u64 (s.high : Int), .bool s.any] := (Blk.new w 42 _).below k5 (by simp)
  have b1 : w1.cell? ⟨w.heap.size, 1, none⟩ = some (.slice (some ⟨bb, 0, none⟩) nw cap) := hB.cell 1
  have b2 : w1.frozen? ⟨w.heap.size, 1, none⟩ = false := hB.frozen 1
  have K := Lib.hid (And.intro k2 k3)
  clear k2 k3
  go_wp2
  go_ret
  rw [World.size_alloc] at k4 k5
  refine ⟨w.heap.size, g, rfl, ⟨h1, h2, h3, nw, cap', cur, H4.out, k1, K.out.1, hB.set_ 1 _, hg.far (p := ⟨w.heap.size, 1, none⟩) (show g ≠ w.heap.size by omega) _, ?_⟩, ?_, Nat.le_refl _, by omega⟩
  · intro i hi
    obtain ⟨x, hx, hcx, hbit⟩ := h9 i hi
    refine ⟨x, hx, ?_, hbit⟩
    have h10 := congrArg (fun l => l[i]?) K.out.2
    have h11 : i < nw := by have := H4.out; omega
    simp only [List.getElem?_take, if_pos h11] at h10
    simpa [hcx] using h10
  · have h12 : Below w.heap.size w (w.alloc (.cells #[.int .u64 (s.size : Int), .slice (some ⟨bb, 0, none⟩) nw cap, .int .u64 (s.high : Int), .bool s.any] 42)) := (Below.refl _ _).alloc (Nat.le_refl _) _
    exact (h12.trans (k5.mono (by omega))).setCell (Nat.le_refl _) _

end Go.Proofs.Yticckhcdbcbooaa
