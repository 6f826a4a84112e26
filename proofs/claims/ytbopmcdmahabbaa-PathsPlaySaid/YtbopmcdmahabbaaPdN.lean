/- does: the two tables side by side. -/
import Derived.Test.YtbopmcdmahabbaaPdM
namespace Go.Proofs.Ytbopmcdmahabbaa
open Go.RowKit

/- Both tables in memory; what was there at first is as it was. -/
structure Duo (n b rb : Nat) (w0 : World) (t : Tab) (rt : RTab) (w : World) : Prop where
  live : Live n b t w
  rl : RL n rb rt w
  bel : Below n w0 w

theorem Live.no90 {n b : Nat} {t : Tab} {w : World} (h : Live n b t w) : ∀ cs, ¬ Blk w b 90 cs := by
  obtain ⟨base, A, cap, m, U, hm, _⟩ := h
  exact fun cs hc => Blk.ne_ hm.blk hc (by decide) rfl
theorem Live.no85 {n b : Nat} {t : Tab} {w : World} (h : Live n b t w) : ∀ cs, ¬ Blk w b 85 cs := by
  obtain ⟨base, A, cap, m, U, hm, _⟩ := h
  exact fun cs hc => Blk.ne_ hm.blk hc (by decide) rfl

section
variable {n b rb : Nat} {w0 w w' : World} {t t' : Tab} {rt rt' : RTab} {r : Ending} {v : Value}
theorem Duo.ne (h : Duo n b rb w0 t rt w) : rb ≠ b := by
  obtain ⟨cs, hc⟩ := h.rl.blk
  rintro rfl
  exact h.live.no85 cs hc
theorem Duo.size (h : Duo n b rb w0 t rt w) : n ≤ w.heap.size := h.live.size
theorem Duo.below (h : Duo n b rb w0 t rt w) (e : Below w.heap.size w w') : Duo n b rb w0 t rt w' := ⟨h.live.below e, h.rl.below e, h.bel.trans (e.mono h.size)⟩
theorem Duo.drew (h : Duo n b rb w0 t rt w) : Duo n b rb w0 t rt w.drew := ⟨h.live.drewN 1, h.rl.drewN 1, ⟨h.bel.os, h.bel.tape, h.bel.output, h.bel.size, h.bel.block⟩⟩
theorem Duo.prog (h : Duo n b rb w0 t rt w) (l : Live n b t' w') (e : Below n w w') (s : Stay b w w') : Duo n b rb w0 t' rt w' :=
  ⟨l, h.rl.stay s e.size h.ne h.live.no90, h.bel.trans e⟩
theorem Duo.ref (h : Duo n b rb w0 t rt w) (l : RL n rb rt' w') (e : Below n w w') (k : Keeps (RT rb w) w w') : Duo n b rb w0 t rt' w' :=
  ⟨h.live.rkeep k h.rl.blk, l, h.bel.trans e⟩

/- Blocks of other types stay. -/
theorem box_prog {g ty : Nat} {cs : Array Value} (hB : Blk w g ty cs) (h : Live n b t w) (s : Stay b w w') (h1 : ty ≠ 68) (h2 : ty ≠ 53) : Blk w' g ty cs := by
  refine s g ty cs ?_ h2 hB
  obtain ⟨base, A, cap, m, U, hm, _⟩ := h
  exact Blk.ne_ hB hm.blk h1
theorem box_ref {g ty : Nat} {cs : Array Value} (hB : Blk w g ty cs) (h : RL n rb rt w) (k : Keeps (RT rb w) w w') (h1 : ty ≠ 85) (h2 : ty ≠ 90) : Blk w' g ty cs := by
  refine hB.keep k ?_
  obtain ⟨cs2, h3⟩ := h.blk
  rintro (rfl | ⟨cur, hc⟩)
  · exact Blk.ne_ hB h3 h1 rfl
  · exact Blk.ne_ hB hc h2 rfl
end

/- The document's times are numbers of 64 bits. -/
def RAt (rt : RTab) : Prop := ∀ q ∈ rt.l, q.at_ < M64

section
variable {rt : RTab} {t : Tab} {j : Nat}
theorem rat_set (h : RAt rt) {k : Nat} {q : RPth} (hq : q.at_ < M64) : RAt (rt.setQ k q) := by
  intro r hr
  rcases List.mem_or_eq_of_mem_set (show r ∈ rt.l.set k q from hr) with h1 | h1
  · exact h r h1
  · rw [h1]; exact hq
theorem rat_add (h : RAt rt) (e : End) : RAt (raddT rt e).1 := by
  unfold raddT
  split
  · exact h
  · split
    · exact h
    · intro r hr
      rcases List.mem_append.1 (show r ∈ rt.l ++ [RPth.new e] from hr) with h1 | h1
      · exact h r h1
      · rw [List.mem_singleton.1 h1]; show 0 < 18446744073709551616; omega
theorem rat_sent (h : RAt rt) (tx : ByteArray) (e : End) (now : Nat) (hn : now < M64) : RAt (rsentT rt tx e now).1 := by
  unfold rsentT
  split
  · exact h
  · split
    · exact h
    · split
      · exact h
      · split
        · exact h
        · exact rat_set h hn
theorem rat_pong (h : RAt rt) (tx : ByteArray) (e : End) (now : Nat) : RAt (rpongT rt tx e now).1 := by
  unfold rpongT
  split
  · exact h
  · split
    · exact h
    · next q hq =>
      split
      · refine rat_set h ?_
        have := h q (List.mem_of_getElem? hq)
        unfold rpongQ
        split <;> exact this
      · exact h
theorem rat_drop (h : RAt rt) (e : End) : RAt (rdropT rt e).1 := by
  unfold rdropT
  split
  · exact h
  · exact fun r hr => h r (List.mem_of_mem_eraseIdx hr)
theorem rat_tidy (h : RAt rt) (now : Nat) : RAt (rt.tidy now) := by
  intro r hr
  obtain ⟨q, hq, rfl⟩ := List.mem_map.1 hr
  have := h q hq
  unfold rtid
  split <;> exact this
theorem rat_best (h : RAt rt) (now : Nat) : RAt (rt.best now) := h

theorem Sync.mem (h : Sync t rt) {q : RPth} (hq : q ∈ rt.l) : q.p ∈ t.l := by rw [← h.l]; exact List.mem_map_of_mem hq
theorem Sync.fin (h : Sync t rt) (iv : Inv j t) (hj : j ≤ 700) : RFin rt := by
  have f := iv.fin hj
  exact ⟨fun q hq => f.sc _ (h.mem hq), fun q hq => f.div _ (h.mem hq), fun q hq r hr => f.add _ (h.mem hq) _ (.inr ⟨r.p, h.mem hr, rfl⟩), fun q hq => f.last _ (h.mem hq)⟩
theorem Sync.usedB (h : Sync t rt) : rt.used = -1 ∨ (0 ≤ rt.used ∧ rt.used < (rt.l.length : Int)) := by
  rw [h.used, h.len]
  cases hu : t.used with
  | none => exact .inl rfl
  | some e =>
    obtain ⟨i, hi⟩ := h.usedIn e hu
    have hlt := (List.findIdx?_eq_some_iff_getElem.1 hi).1
    simp only [hi]
    exact .inr ⟨by show (0 : Int) ≤ (i : Int); omega, by show (i : Int) < _; omega⟩
end

/-! The document's calls, in the program's words. -/
section
variable {n rb j : Nat} {t : Tab} {rt : RTab} {w : World}
theorem s_add (h : RL n rb rt w) (hs : Sync t rt) (iv : Inv j t) (e : End) : Calls Try.prog 37 #[ptr rb, .agg e.cells] w (RDoes n rb (raddT rt e).1 (.int .i64 (addT t e).2) w) := by
  rw [← (sync_add hs iv e).2]
  unfold raddT
  cases hf : rfind rt e with
  | some i => exact radd_there h e hf
  | none =>
    simp only [Option.isSome_none, Bool.false_eq_true, if_false]
    by_cases hq : rt.most ≤ rt.l.length
    · rw [if_pos hq]; exact radd_full h e hf hq
    · rw [if_neg hq]; exact radd_ok h e hf (by omega)
theorem s_sent (h : RL n rb rt w) (hs : Sync t rt) (iv : Inv j t) (tx : ByteArray) (e : End) (now : Nat) : Calls Try.prog 41 #[ptr rb, .string tx, .agg e.cells, .int .u64 (now : Int)] w (RDoes n rb (rsentT rt tx e now).1 (.int .i64 (sentT t tx e now).2) w) := by
  rw [← (sync_sent hs iv tx e now).2]
  exact c_rsent h tx e now
theorem s_pong (h : RL n rb rt w) (hs : Sync t rt) (iv : Inv j t) (hj : j ≤ 600) (ha : RAt rt) (tx : ByteArray) (e : End) (now : Nat) (hn : now < M64) : Calls Try.prog 34 #[ptr rb, .string tx, .agg e.cells, .int .u64 (now : Int)] w (RDoes n rb (rpongT rt tx e now).1 (.int .i64 (pongT t tx e now).2) w) := by
  rw [← (sync_pong hs iv tx e now).2]
  exact c_rpong h tx e now hn ha (fun q hq => ⟨(iv.lost _ (hs.mem hq)).1, by have := (iv.lost _ (hs.mem hq)).2; omega⟩) hj (fun q hq => iv.x _ (hs.mem hq)) (fun q hq => iv.y _ (hs.mem hq))
theorem s_drop (h : RL n rb rt w) (hs : Sync t rt) (iv : Inv j t) (e : End) : Calls Try.prog 38 #[ptr rb, .agg e.cells] w (RDoes n rb (rdropT rt e).1 (.int .i64 (dropT t e).2) w) := by
  rw [← (sync_drop hs iv e).2]
  have hl := h.lim
  have h1 := hl.len
  have h2 := hl.most1
  exact c_rdrop h e (by rcases hs.usedB with h | h <;> omega) (by rcases hs.usedB with h | h <;> omega)
theorem s_tidy (h : RL n rb rt w) (hs : Sync t rt) (iv : Inv j t) (hj : j ≤ 600) (ha : RAt rt) (now : Nat) (hn : now < M64) : Calls Try.prog 36 #[ptr rb, .int .u64 (now : Int)] w (RDoes n rb (rt.tidy now) (.int .i64 (tidyN t now : Int)) w) := by
  rw [← tidy_count hs iv now]
  exact c_rtidy h now hn ha (fun q hq => ⟨(iv.lost _ (hs.mem hq)).1, by have := (iv.lost _ (hs.mem hq)).2; omega⟩)
theorem s_best (h : RL n rb rt w) (hs : Sync t rt) (iv : Inv j t) (hj : j ≤ 600) (now : Nat) (hn : now < M64) : Calls Try.prog 35 #[ptr rb, .int .u64 (now : Int)] w (RDoes n rb (rt.best now) (oneV (bestE t now)) w) := by
  rw [← (sync_best hs iv now).2]
  exact c_rbest h now hn (hs.fin iv (by omega)) hs.usedB
theorem s_score (h : RL n rb rt w) (hs : Sync t rt) (iv : Inv j t) (hj : j ≤ 600) (e : End) (now : Nat) (hn : now < M64) : Calls Try.prog 39 #[ptr rb, .agg e.cells, .int .u64 (now : Int)] w (RSays n rb rt (scoreV t e now) w) := by
  rw [← hs.score]
  have f := hs.fin iv (show j ≤ 700 by omega)
  exact c_rscore h e now hn f.last f.sc

theorem scoreV_some (t : Tab) (e : End) (now : Nat) : ∃ s x, scoreV t e now = .tuple #[.float .f64 s, .bool x] := by
  unfold scoreV
  split
  · exact ⟨_, _, rfl⟩
  · exact ⟨_, _, rfl⟩
end
end Go.Proofs.Ytbopmcdmahabbaa
