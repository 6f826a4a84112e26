/- PathsLosses: the states. -/
import Derived.Test.YtbopmcdmahabbaaPbB
namespace Go.Proofs.Ytbopmcdmahabbaa
open Go.RowKit

section
variable {n b : Nat} {t : Tab} {w w' : World}
theorem live_tidy (h : Live n b t w) (ok : t.Ok) (now : Nat) (hn : now < 18446744073709551616) (hat : ∀ x ∈ t.pings, x.at_ < 18446744073709551616) (hlost : ∀ p ∈ t.l, 0 ≤ p.lost ∧ p.lost < 1000) (hpl : t.pings.length < 1000000) :
    Calls Try.prog 14 #[ptr b, .int .u64 (now : Int)] w (Does n b (t.tidy now) (.int .i64 (tidyN t now : Int)) w) := by
  obtain ⟨base, A, cap, m, U, hm, h1, h2, h3, h4, h5⟩ := h
  refine (tidy_any hm ok now hn hat hlost hpl).mono ?_
  rintro r w' ⟨hr, hm', hk⟩
  refine ⟨hr, ⟨base, A, cap, m, U, hm', h1, h2, Nat.le_trans h3 hk.size, h4, h5⟩, hk.below (fun k hk => ?_) (by omega)⟩
  rcases hk with rfl | rfl | hg
  · exact h1
  · exact h4
  · have := (hm.own_lt k hg).1; omega
end

theorem g2 : F.add (fU 1) 0 = some (fU 1) := by kernel_rfl
theorem g3 : F.div (fU 1) c8 = some (eighth (fU 1)) := by kernel_rfl
theorem g4 : F.add 0 (eighth (fU 1)) = some (plus 0 (eighth (fU 1))) := by kernel_rfl
theorem g5 : F.add (fU 1) (eighth (fU 1)) = some (plus (fU 1) (eighth (fU 1))) := by kernel_rfl

section
variable (wa li lo mo : Nat)
def ls (l : List Pth) (pg : List Ent) (c : Nat) (u : Option End) : Tab := { wait := wa, life := li, losses := lo, most := mo, l := l, pings := pg, clock := c, used := u }
def lp (last : Nat) (lost : Int) : Pth := { e := endOf 1, x := fU 1, y := 0, heard := true, last := last, lost := lost }

theorem ls_add : (Tab.new wa li lo mo).add (endOf 1) = ls wa li lo mo [k1] [] 0 none := rfl
theorem ls_sent0 : (ls wa li lo mo [k1] [] 0 none).sent (txOf 0) (endOf 1) 0 = ls wa li lo mo [k1] [⟨txOf 0, endOf 1, 0, 0⟩] 1 none := rfl
theorem ls_pong0 : ((ls wa li lo mo [k1] [⟨txOf 0, endOf 1, 0, 0⟩] 1 none).quiet (endOf 1)).setP 0 ⟨k1.e, fU (ago 1 0), 0, true, 1, 0⟩ = ls wa li lo mo [lp 1 0] [] 1 none := by kernel_rfl
theorem ls_sent (i : Nat) (j : Int) (c : Nat) (u : Option End) : (ls wa li lo mo [lp 1 j] [] c u).sent (txOf i) (endOf 1) 1 = ls wa li lo mo [lp 1 j] [⟨txOf i, endOf 1, 1, c⟩] (c + 1) u := rfl
theorem ls_tidy1 (i : Nat) (j : Int) (c c' : Nat) (u : Option End) : (ls wa li lo mo [lp 1 j] [⟨txOf i, endOf 1, 1, c⟩] c' u).tidy (1 + wa) = ls wa li lo mo [lp 1 j] [⟨txOf i, endOf 1, 1, c⟩] c' u := by
  refine tidyD_none fun x hx => ?_
  obtain rfl := List.mem_singleton.1 hx
  simp [due, ago, ls]
theorem ls_tidy2 (i : Nat) (j : Int) (c c' : Nat) (u : Option End) : (ls wa li lo mo [lp 1 j] [⟨txOf i, endOf 1, 1, c⟩] c' u).tidy (2 + wa) = ls wa li lo mo [lp 1 (j + 1)] [] c' u := by
  have h1 : (ls wa li lo mo [lp 1 j] [⟨txOf i, endOf 1, 1, c⟩] c' u).tidy (2 + wa) = (ls wa li lo mo [lp 1 j] [⟨txOf i, endOf 1, 1, c⟩] c' u).tidyD fun _ => true := by
    refine tidyD_congr fun x hx => ?_
    obtain rfl := List.mem_singleton.1 hx
    show decide (wa < 2 + wa - 1) = true
    rw [decide_eq_true_eq]
    omega
  exact h1.trans (by kernel_rfl)
theorem ls_tidy3 (j : Int) (c' now : Nat) (u : Option End) : (ls wa li lo mo [lp 1 j] [] c' u).tidy now = ls wa li lo mo [lp 1 j] [] c' u := tidyD_none fun x hx => by cases hx
theorem ls_pong2 (i : Nat) (j : Int) (c c' : Nat) (u : Option End) : ((ls wa li lo mo [lp 1 j] [⟨txOf i, endOf 1, 1, c⟩] c' u).quiet (endOf 1)).setP 0 ⟨(lp 1 j).e, fU 1, 0, true, 2, 0⟩ = ls wa li lo mo [lp 2 0] [] c' u := by kernel_rfl

theorem ls_fin (last : Nat) (j : Int) (pg : List Ent) (c : Nat) (u : Option End) (hl : last < 18446744073709551616) : Fin (ls wa li lo mo [lp last j] pg c u) := by
  have hs : sc (lp last j) = fU 1 := by
    show (F.add (fU 1) ((F.mul c4 0).getD 0)).getD 0 = fU 1
    rw [f0]
    show (F.add (fU 1) 0).getD 0 = fU 1
    rw [g2]
    rfl
  have hm : ∀ r ∈ (ls wa li lo mo [lp last j] pg c u).l, r = lp last j := fun r hr => List.mem_singleton.1 hr
  refine ⟨fun r hr => ?_, fun r hr => ?_, fun r hr a ha => ?_, fun r hr => ?_⟩
  · rw [hm r hr, hs]
    exact ⟨0, f0, g2⟩
  · rw [hm r hr, hs]
    exact g3
  · have ha' : a = 0 ∨ a = fU 1 := by
      rcases ha with h | ⟨s, h1, h⟩
      · exact .inl h
      · rw [hm s h1, hs] at h
        exact .inr h
    rw [hm r hr, hs]
    rcases ha' with rfl | rfl
    · exact g4
    · exact g5
  · rw [hm r hr]
    exact hl

theorem ls_there (j : Int) (c : Nat) (now : Nat) (u : Option End) : there (ls wa li lo mo [lp now j] [] c u) (lp now j) now = decide (j < (lo : Int)) := by
  show (true && (decide (now - now ≤ li) && decide (j < (lo : Int)))) = decide (j < (lo : Int))
  rw [Nat.sub_self]
  simp only [Nat.zero_le, decide_true, Bool.true_and]
end

theorem best_single {T : Tab} {p : Pth} {now : Nat} (hl : T.l = [p]) (hu : T.used = none) : bestE T now = if there T p now then some p.e else none := by
  have h1 : bestTo T now 1 = pick T now 0 p (none, 0) := by simp [bestTo, hl]
  unfold bestE bestI
  rw [hu]
  simp only [hl, List.length_singleton, h1, pick, Option.isNone_none, Bool.true_or, Bool.and_true]
  cases there T p now <;> simp

theorem best_single_yes {T : Tab} {p : Pth} {now : Nat} (hl : T.l = [p]) (hu : T.used = none ∨ T.used = some p.e) (ht : there T p now = true) : bestE T now = some p.e := by
  rcases hu with hu | hu
  · rw [best_single hl hu, ht]; rfl
  · have h1 : bestTo T now 1 = (some 0, sc p) := by simp [bestTo, hl, pick, ht]
    have h2 : findI [p] p.e = some 0 := by simp [findI, End.eqb_iff.2 rfl]
    unfold bestE bestI
    rw [hu]
    simp only [hl, h2, List.length_singleton, h1, List.getElem?_cons_zero]
    split <;> simp

end Go.Proofs.Ytbopmcdmahabbaa
