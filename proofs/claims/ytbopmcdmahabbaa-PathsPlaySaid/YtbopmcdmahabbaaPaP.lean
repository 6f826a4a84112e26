/- What stays true of a table; the answers of no table; Paths. -/
import Derived.Test.YtbopmcdmahabbaaPaO
namespace Go.Proofs.Ytbopmcdmahabbaa
open Go.RowKit

theorem Tab.Ok.new (a b c d : Nat) : (Tab.new a b c d).Ok := ⟨by simp [Tab.new], by simp [Tab.new], by simp [Tab.new], by simp [Tab.new], by simp [Tab.new]⟩

theorem Tab.Ok.add {t : Tab} (ok : t.Ok) (e : End) : (t.add e).Ok := by
  refine ⟨ok.born, ok.nodup, ok.keys, ok.ends, fun x hx => ?_⟩
  obtain ⟨p, hp, he⟩ := ok.there x hx
  exact ⟨p, by simp [Tab.add, hp], he⟩

theorem Tab.Ok.best {t : Tab} (ok : t.Ok) (now : Nat) : (t.best now).Ok := ⟨ok.born, ok.nodup, ok.keys, ok.ends, ok.there⟩

theorem Tab.Ok.setP {t : Tab} (ok : t.Ok) {i : Nat} {p p' : Pth} (hp : t.l[i]? = some p) (he : p'.e = p.e) : (t.setP i p').Ok := by
  refine ⟨ok.born, ok.nodup, ok.keys, ok.ends, fun x hx => ?_⟩
  obtain ⟨q, hq, hqe⟩ := ok.there x hx
  obtain ⟨j, hj⟩ := List.getElem?_of_mem hq
  by_cases h : i = j
  · subst h
    have hpq : p = q := by rw [hp] at hj; injection hj
    subst hpq
    refine ⟨p', ?_, by rw [he, hqe]⟩
    exact List.mem_of_getElem? (i := i) (by
      have hlt : i < t.l.length := by
        rcases Nat.lt_or_ge i t.l.length with h1 | h1
        · exact h1
        · rw [List.getElem?_eq_none h1] at hp; cases hp
      simp [Tab.setP, hlt])
  · exact ⟨q, List.mem_of_getElem? (i := j) (by simp [Tab.setP, List.getElem?_set, h, hj]), hqe⟩

theorem findI_mem {l : List Pth} {e : End} {i : Nat} (h : findI l e = some i) : ∃ p, l[i]? = some p ∧ p.e = e := by
  obtain ⟨hlt, h1, _⟩ := List.findIdx?_eq_some_iff_getElem.1 h
  exact ⟨l[i], List.getElem?_eq_getElem hlt, End.eqb_iff.1 h1⟩

theorem Tab.Ok.sent {t : Tab} (ok : t.Ok) (tx : ByteArray) (e : End) (now : Nat) {i : Nat} (hf : findI t.l e = some i) (hno : ∀ x ∈ t.pings, x.tx ≠ tx) : (t.sent tx e now).Ok := by
  have hq : ∀ x ∈ (t.quiet e).pings, x ∈ t.pings ∧ x.e ≠ e := by
    intro x hx
    obtain ⟨h1, h2⟩ := List.mem_filter.1 hx
    refine ⟨h1, fun he => ?_⟩
    simp [End.eqb_iff.2 he] at h2
  have hm : ∀ x ∈ (t.sent tx e now).pings, x ∈ (t.quiet e).pings ∨ x = ⟨tx, e, now, t.clock⟩ := by
    intro x hx
    rcases List.mem_append.1 hx with h | h
    · exact .inl h
    · exact .inr (List.mem_singleton.1 h)
  refine ⟨fun x hx => ?_, ?_, fun x hx y hy hxy => ?_, fun x hx y hy hxy => ?_, fun x hx => ?_⟩
  · show x.born < t.clock + 1
    rcases hm x hx with h | rfl
    · have := ok.born x (hq x h).1; omega
    · simp
  · show (((t.quiet e).pings ++ [(⟨tx, e, now, t.clock⟩ : Ent)]).map (·.born)).Nodup
    rw [List.map_append, List.nodup_append]
    refine ⟨(ok.quiet e).nodup, by simp, fun a ha b hb => ?_⟩
    obtain ⟨x, hx, rfl⟩ := List.mem_map.1 ha
    have := ok.born x (hq x hx).1
    simp at hb
    omega
  · rcases hm x hx with h | rfl
    · rcases hm y hy with h2 | rfl
      · exact ok.keys x (hq x h).1 y (hq y h2).1 hxy
      · exact absurd hxy (hno x (hq x h).1)
    · rcases hm y hy with h2 | rfl
      · exact absurd hxy.symm (hno y (hq y h2).1)
      · rfl
  · rcases hm x hx with h | rfl
    · rcases hm y hy with h2 | rfl
      · exact ok.ends x (hq x h).1 y (hq y h2).1 hxy
      · exact absurd hxy (hq x h).2
    · rcases hm y hy with h2 | rfl
      · exact absurd hxy.symm (hq y h2).2
      · rfl
  · rcases hm x hx with h | rfl
    · exact ok.there x (hq x h).1
    · obtain ⟨p, hp, he⟩ := findI_mem hf
      exact ⟨p, List.mem_of_getElem? hp, he⟩

theorem drop_nil (e : End) (w : World) : Calls Try.prog 16 #[.pointer none, .agg e.cells] w fun r w' => r = .returned (.int .i64 1) ∧ Below w.heap.size w w' := by
  rw [cellsE]
  go_enter Try.func16, Try.ntmps16
  go_wp2_with (go_at_call 24; refine (tnone_nil _).mono ?_; rintro r w' ⟨rfl, rfl⟩)
  go_ret
  exact ⟨rfl, (Below.refl _ _).alloc (Nat.le_refl _) _⟩

theorem tidy_nil (now : Int) (w : World) : Calls Try.prog 14 #[.pointer none, .int .u64 now] w fun r w' => r = .returned (.int .i64 0) ∧ w = w' := by
  go_enter Try.func14, Try.ntmps14
  go_wp2_with (go_at_call 24; refine (tnone_nil _).mono ?_; rintro r w' ⟨rfl, rfl⟩)
  go_ret
  exact ⟨rfl, rfl⟩

theorem best_nil (now : Int) (w : World) : Calls Try.prog 15 #[.pointer none, .int .u64 now] w fun r w' => r = .returned (.tuple #[.agg End.zero.cells, .bool false]) ∧ Below w.heap.size w w' := by
  go_enter Try.func15, Try.ntmps15
  go_wp2_with (go_at_call 24; refine (tnone_nil _).mono ?_; rintro r w' ⟨rfl, rfl⟩)
  refine bodyPost_ret (v := .tuple #[.agg #[.bool false, .int .u64 0, .int .u64 0, .int .u16 0], .bool false]) (by simp [results, Try.results15, go_sem]) rfl ⟨rfl, (Below.refl _ _).alloc (Nat.le_refl _) _⟩

theorem paths_nil (w : World) : Calls Try.prog 18 #[.pointer none] w fun r w' => r = .returned (.slice none 0 0) ∧ w = w' := by
  go_enter Try.func18, Try.ntmps18
  go_wp2_with (go_at_call 24; refine (tnone_nil _).mono ?_; rintro r w' ⟨rfl, rfl⟩)
  go_ret
  exact ⟨rfl, rfl⟩

theorem waiting_nil (w : World) : Calls Try.prog 22 #[.pointer none] w fun r w' => r = .returned (.slice none 0 0) ∧ w = w' := by
  go_enter Try.func22, Try.ntmps22
  go_wp2_with (go_at_call 24; refine (tnone_nil _).mono ?_; rintro r w' ⟨rfl, rfl⟩)
  go_ret
  exact ⟨rfl, rfl⟩

theorem q49 (w : World) (a : Option Addr) (n c : Nat) : (binOp .eql 49 (.slice a n c) (.slice none 0 0)).run Try.prog w = .ok (.bool a.isNone) w := Lib.run_eql_slice_nil w _ _ _ _ _ _ _ Try.underlying49

theorem one_pcells (l : List Pth) : ∀ u ∈ pcells l, u.oneCell' = true := by
  intro u hu
  obtain ⟨p, _, hp⟩ := List.mem_flatMap.1 hu
  simp [Pth.cells] at hp
  rcases hp with rfl | rfl | rfl | rfl | rfl | rfl | rfl | rfl <;> rfl

set_option maxHeartbeats 1000000 in
theorem pclone_any (base g cap : Nat) (l : List Pth) (w : World) (h : PRow w base (some ⟨g, 0, none⟩) cap l) (hl : l.length ≤ 64) :
    Calls Try.prog 33 #[.slice (some ⟨g, 0, none⟩) l.length cap] w fun r w' => ∃ (A' : Option Addr) (cap' : Nat), r = .returned (.slice A' l.length cap') ∧ PRow w' w.heap.size A' cap' l ∧ Below w.heap.size w w' := by
  have q := q49
  obtain ⟨i0, hi0, hz0, hz1, hz2⟩ := info_parts info53
  have hown : (w.alloc (.cells #[] 53)).ownsRow w.heap.size 53 8 (.slice (some ⟨w.heap.size, 0, none⟩) 0 0) 0 [] := World.ownsRow_made w #[] 0 (Nat.le_refl _) (by simp [maxLen]) rfl
  have h1 := h.below ((Below.refl w.heap.size w).alloc (Nat.le_refl _) (.cells #[] 53))
  have hnews : ∀ j u, (pcells l)[j]? = some u → (w.alloc (.cells #[] 53)).cell? ((⟨g, 0, none⟩ : Addr).add j) = some u := World.ownsRow.cells h1 (g := g) rfl
  have hone := one_pcells l
  have hlen := pcells_length l
  have Hlen := Lib.hid hlen
  have Hnews := Lib.hid hnews
  have Hone := Lib.hid hone
  clear hnews hone hlen
  go_enter Try.func33, Try.ntmps33
  go_wp2_with (at_builtin; refine wpList_append_own _ rfl (.tmp 5) (.tmp 6) _ rfl w.heap.size 53 i0 _ 8 72 Try.underlying49 hi0 hz0 hz1 hz2 rfl (by omega) (.slice (some ⟨w.heap.size, 0, none⟩) 0 0) 0 [] rfl hown ⟨g, 0, none⟩ l.length cap (pcells l) rfl Hlen.out Hnews.out Hone.out (by simp only [maxLen]; omega) (by omega) (by simp) ?_; intro v' w' hown' hgrow _)
  go_ret
  obtain ⟨A', cap', hv⟩ : ∃ A' cap', v' = .slice A' l.length cap' := by
    rcases hown'.2 with ⟨e, h0⟩ | ⟨g2, cap2, cur, e, _⟩
    · have : l.length = 0 := by omega
      exact ⟨none, 0, by rw [e, this]⟩
    · exact ⟨some ⟨g2, 0, none⟩, cap2, by rw [e]; simp⟩
  refine ⟨A', cap', by rw [← hv]; simp, ?_, ((Below.refl _ _).alloc (Nat.le_refl _) _).grown hgrow (by simp) (by simp [Value.ownBlock])⟩
  unfold PRow
  rw [← hv]
  simpa using hown'

end Go.Proofs.Ytbopmcdmahabbaa
