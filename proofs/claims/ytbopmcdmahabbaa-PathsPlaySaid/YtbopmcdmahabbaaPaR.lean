/- Paths. -/
import Derived.Test.YtbopmcdmahabbaaPaQ
namespace Go.Proofs.Ytbopmcdmahabbaa
open Go.RowKit

/- The paths, as cells to be read. -/
def PCells (w : World) (B : Nat) (A : Option Addr) (l : List Pth) : Prop :=
  ∀ i p, l[i]? = some p → ∃ g, A = some ⟨g, 0, none⟩ ∧ B ≤ g ∧ g < w.heap.size ∧ ∀ j, j < 8 → w.cell? ⟨g, i * 8 + j, none⟩ = p.cells[j]?

theorem pclip_any (A : Option Addr) (len cap : Nat) (w : World) (hc : len ≤ cap) (hcap : cap ≤ maxLen) :
    Calls Try.prog 32 #[.slice A len cap] w fun r w' => r = .returned (.slice A len len) ∧ w = w' := by
  go_enter Try.func32, Try.ntmps32
  go_wp2
  go_ret
  exact ⟨rfl, rfl⟩

theorem pclone_nil (w : World) : Calls Try.prog 33 #[.slice none 0 0] w fun r w' => r = .returned (.slice none 0 0) ∧ w = w' := by
  have q := q49
  go_enter Try.func33, Try.ntmps33
  go_wp2
  go_ret
  exact ⟨rfl, rfl⟩

theorem PRow.pcells {w : World} {base : Nat} {A : Option Addr} {cap : Nat} {l : List Pth} (h : PRow w base A cap l) : PCells w base A l := fun _ _ hp => h.at_ hp

def Pathed (n b : Nat) (t : Tab) (w : World) (r : Ending) (w' : World) : Prop :=
  ∃ A : Option Addr, r = .returned (.slice A t.l.length t.l.length) ∧ PCells w' n A t.l ∧ Live n b t w' ∧ Below w.heap.size w w'

theorem live_paths {n b : Nat} {t : Tab} {w : World} (h : Live n b t w) : Calls Try.prog 18 #[ptr b] w (Pathed n b t w) := by
  have hL := h
  obtain ⟨base, A, cap, m, U, hm, h1, h2, h3, h4⟩ := h
  obtain ⟨c0, c1, c2, c3, c4', c5, c6⟩ := hm.cells
  have hlim := hm.lim
  have hlen : t.l.length ≤ 64 := Nat.le_trans hlim.len hlim.most1
  have hr := hm.row
  have hcases := hm.row.2
  go_enter Try.func18, Try.ntmps18
  go_wp2_with (go_at_call 24; refine (tnone_some c5).mono ?_; rintro r0 w0 ⟨rfl, rfl⟩)
  rcases hcases with ⟨e, h0⟩ | ⟨g, cap2, cur, e, hg, hb, hc⟩
  · rw [h0] at e
    have hA : A = none := by injection e
    have hcap : cap = 0 := by injection e
    subst hA hcap
    simp only [h0]
    go_at_call 33
    refine (pclone_nil w).mono ?_
    rintro r w' ⟨rfl, rfl⟩
    go_wp2_with (go_at_call 32; refine (pclip_any none 0 0 w (by omega) (by simp [maxLen])).mono ?_; rintro r2 w2 ⟨rfl, rfl⟩)
    go_ret
    refine ⟨none, by rw [h0]; rfl, ?_, hL, Below.refl _ _⟩
    intro i p hp
    rw [List.eq_nil_of_length_eq_zero h0] at hp
    simp at hp
  · have hA : A = some ⟨g, 0, none⟩ := by injection e
    subst hA
    go_at_call 33
    refine (pclone_any base g cap t.l w hr hlen).mono ?_
    rintro r w' ⟨A', cap', rfl, hp, hb'⟩
    have hcc : t.l.length ≤ cap' ∧ cap' ≤ maxLen := by
      rcases hp.2 with ⟨e2, h02⟩ | ⟨g2, cap3, cur2, e2, _, _, hq⟩
      · have : cap' = 0 := by injection e2
        omega
      · have : cap' = cap3 := by injection e2
        subst this
        exact ⟨hq.1, hq.2.1⟩
    go_wp2_with (go_at_call 32; refine (pclip_any A' t.l.length cap' w' hcc.1 hcc.2).mono ?_; rintro r2 w2 ⟨rfl, rfl⟩)
    go_ret
    refine ⟨A', rfl, fun i p hi => ?_, hL.below hb', hb'⟩
    obtain ⟨g2, e2, hg2, hl2, hc2⟩ := hp.pcells i p hi
    exact ⟨g2, e2, Nat.le_trans hL.size hg2, hl2, hc2⟩

end Go.Proofs.Ytbopmcdmahabbaa
