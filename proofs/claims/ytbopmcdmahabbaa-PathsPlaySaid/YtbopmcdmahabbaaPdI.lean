/- The document's answer: Best. -/
import Derived.Test.YtbopmcdmahabbaaPdH
namespace Go.Proofs.Ytbopmcdmahabbaa
open Go.RowKit

def rget (t : RTab) (o : Option Nat) : Option RPth := o.bind fun m => t.l[m]?
def rbest (t : RTab) (now : Nat) : Nat → Option Nat
  | 0 => none
  | k + 1 => match t.l[k]? with
    | none => rbest t now k
    | some q => if rthere t q.p now && (match rget t (rbest t now k) with | none => true | some qm => flt (sc q.p) (sc qm.p)) then some k else rbest t now k

theorem rbest_succ {t : RTab} {now k : Nat} {q : RPth} (hq : t.l[k]? = some q) : rbest t now (k + 1) = if rthere t q.p now && (match rget t (rbest t now k) with | none => true | some qm => flt (sc q.p) (sc qm.p)) then some k else rbest t now k := by
  simp only [rbest, hq]

theorem rbest_lt (t : RTab) (now : Nat) : ∀ k, k ≤ t.l.length → ∀ m, rbest t now k = some m → m < k ∧ ∃ q, t.l[m]? = some q ∧ rthere t q.p now = true := by
  intro k
  induction k with
  | zero => intro _ m h; cases h
  | succ k ih =>
    intro hk m h
    obtain ⟨q, hq⟩ : ∃ q, t.l[k]? = some q := ⟨t.l[k], List.getElem?_eq_getElem (by omega)⟩
    rw [rbest_succ hq] at h
    generalize (match rget t (rbest t now k) with | none => true | some qm => flt (sc q.p) (sc qm.p)) = c at h
    by_cases hc : (rthere t q.p now && c) = true
    · rw [if_pos hc] at h
      injection h with h
      subst h
      rw [Bool.and_eq_true] at hc
      exact ⟨by omega, q, hq, hc.1⟩
    · rw [if_neg hc] at h
      obtain ⟨h1, h2⟩ := ih (by omega) m h
      exact ⟨by omega, h2⟩


theorem RM.at12 {w : World} {b base cap g k : Nat} {t : RTab} {q : RPth} (h : RM w b base (some ⟨g, 0, none⟩) cap t) (hq : t.l[k]? = some q) : w.cell? ⟨g, k * 12, none⟩ = some (.bool q.p.e.v6) ∧ w.cell? ⟨g, k * 12 + 1, none⟩ = some (.int .u64 (q.p.e.hi : Int)) ∧ w.cell? ⟨g, k * 12 + 2, none⟩ = some (.int .u64 (q.p.e.lo : Int)) ∧ w.cell? ⟨g, k * 12 + 3, none⟩ = some (.int .u16 (q.p.e.port : Int)) ∧ w.cell? ⟨g, k * 12 + 4, none⟩ = some (.float .f64 q.p.x) ∧ w.cell? ⟨g, k * 12 + 5, none⟩ = some (.float .f64 q.p.y) ∧ w.cell? ⟨g, k * 12 + 6, none⟩ = some (.bool q.p.heard) ∧ w.cell? ⟨g, k * 12 + 7, none⟩ = some (.int .u64 (q.p.last : Int)) ∧ w.cell? ⟨g, k * 12 + 8, none⟩ = some (.int .i64 q.p.lost) ∧ w.cell? ⟨g, k * 12 + 9, none⟩ = some (.bool q.waits) ∧ w.cell? ⟨g, k * 12 + 10, none⟩ = some (.string q.tx) ∧ w.cell? ⟨g, k * 12 + 11, none⟩ = some (.int .u64 (q.at_ : Int)) := by
  obtain ⟨g', hg', _, _, hc⟩ := h.row.at_ hq
  obtain rfl : g = g' := by injection hg' with hg'; injection hg'
  exact ⟨hc 0 (by omega), hc 1 (by omega), hc 2 (by omega), hc 3 (by omega), hc 4 (by omega), hc 5 (by omega), hc 6 (by omega), hc 7 (by omega), hc 8 (by omega), hc 9 (by omega), hc 10 (by omega), hc 11 (by omega)⟩

theorem RM.drew {w : World} {b base cap : Nat} {A : Option Addr} {t : RTab} (h : RM w b base A cap t) : RM w.drew b base A cap t := h.drewN 1

theorem RM.setUsed {w : World} {b base cap : Nat} {A : Option Addr} {t : RTab} (h : RM w b base A cap t) (u : Int) : RM (w.setCell ⟨b, 5, none⟩ (.int .i64 u)) b base A cap { t with used := u } := by
  have hk : Keeps (fun k => k = b) w (w.setCell ⟨b, 5, none⟩ (.int .i64 u)) := (Keeps.refl (fun k => k = b) w).setCell (p := ⟨b, 5, none⟩) (.inl rfl) _
  exact ⟨⟨h.lim.wait0, h.lim.wait1, h.lim.life0, h.lim.life1, h.lim.loss0, h.lim.loss1, h.lim.most0, h.lim.most1, h.lim.len⟩, h.blk.set_ 5 _, h.row.keep hk (fun g hg => h.own_sep hg)⟩

/- The path that is told: by its place. -/
def rbestI (t : RTab) (now : Nat) : Option Nat :=
  if 0 ≤ t.used then match t.l[t.used.toNat]? with
    | none => rbest t now t.l.length
    | some qu => if rthere t qu.p now then match rget t (rbest t now t.l.length) with
        | none => rbest t now t.l.length
        | some qb => if flt (plus (sc qb.p) (eighth (sc qu.p))) (sc qu.p) then rbest t now t.l.length else some t.used.toNat
      else rbest t now t.l.length
  else rbest t now t.l.length
def RTab.best (t : RTab) (now : Nat) : RTab := { t with used := oidx (rbestI t now) }
def rbestE (t : RTab) (now : Nat) : Option End := (rget t (rbestI t now)).map (·.p.e)

theorem rbestE_some {t : RTab} {now m : Nat} {q : RPth} (h : rbestI t now = some m) (hq : t.l[m]? = some q) : rbestE t now = some q.p.e := by
  unfold rbestE
  rw [h]
  show Option.map _ (t.l[m]?) = _
  rw [hq]
  rfl
theorem rbestE_none {t : RTab} {now : Nat} (h : rbestI t now = none) : rbestE t now = none := by
  unfold rbestE
  rw [h]
  rfl


/- What is reckoned of the paths is a number. -/
structure RFin (t : RTab) : Prop where
  sc : ∀ q ∈ t.l, ∃ mm, F.mul c4 q.p.y = some mm ∧ F.add q.p.x mm = some (sc q.p)
  div : ∀ q ∈ t.l, F.div (Go.Proofs.Ytbopmcdmahabbaa.sc q.p) c8 = some (eighth (Go.Proofs.Ytbopmcdmahabbaa.sc q.p))
  add : ∀ q ∈ t.l, ∀ r ∈ t.l, F.add (Go.Proofs.Ytbopmcdmahabbaa.sc r.p) (eighth (Go.Proofs.Ytbopmcdmahabbaa.sc q.p)) = some (plus (Go.Proofs.Ytbopmcdmahabbaa.sc r.p) (eighth (Go.Proofs.Ytbopmcdmahabbaa.sc q.p)))
  last : ∀ q ∈ t.l, q.p.last < M64

section
variable {n b : Nat} {t : RTab} {w : World}

set_option maxHeartbeats 8000000 in
set_option maxRecDepth 100000 in
theorem c_rbest (h : RL n b t w) (now : Nat) (hn : now < M64) (fin : RFin t) (hu : t.used = -1 ∨ (0 ≤ t.used ∧ t.used < (t.l.length : Int))) :
    Calls Try.prog 35 #[ptr b, .int .u64 (now : Int)] w (RDoes n b (t.best now) (oneV (rbestE t now)) w) := by
  obtain ⟨base, A, cap, hm, h1, h2, h3⟩ := h
  have hm1 := hm.alloc (.cells #[.bool false, .int .u64 0, .int .u64 0, .int .u16 0] 35)
  have hl := hm.lim.len
  have hl1 := hm.lim.most1
  have hbl := hm.blk.lt
  go_enter Try.func35, Try.ntmps35
  go_wp2_with fail
  go_loopw [6, 7] (fun v6 v7 wr => ∃ k : Nat, k ≤ t.l.length ∧ v6 = .int .i64 (oidx (rbest t now k)) ∧ v7 = .int .i64 (k : Int) ∧ Below (w.heap.size + 1) (w.alloc (.cells #[.bool false, .int .u64 0, .int .u64 0, .int .u16 0] 35)) wr) (fun _ v7 _ => t.l.length - (intOf v7).toNat)
  case atStart => exact ⟨0, Nat.zero_le _, rfl, rfl, by simpa using Below.refl _ (w.alloc (.cells #[.bool false, .int .u64 0, .int .u64 0, .int .u16 0] 35))⟩
  case round =>
    obtain ⟨k, hk, rfl, rfl, br⟩ := hrel
    have hR : RM wr b base A cap t := hm1.below (by simpa using br)
    have hbs : w.heap.size + 1 ≤ wr.heap.size := by have := br.size; simp at this; omega
    have pd := hR.cells.2.2.2.2.1
    by_cases hlt : k < t.l.length
    · obtain ⟨q, hq⟩ : ∃ q, t.l[k]? = some q := ⟨t.l[k], List.getElem?_eq_getElem hlt⟩
      have hmem := List.mem_of_getElem? hq
      have hla := fin.last q hmem
      obtain ⟨mm, m1, m2⟩ := fin.sc q hmem
      obtain ⟨g, rfl, hbg, hgl, hc⟩ := hR.row.at_ hq
      have pa0 := hc 0 (by omega)
      have pa1 := hc 1 (by omega)
      have pa2 := hc 2 (by omega)
      have pa3 := hc 3 (by omega)
      have pa4 := hc 4 (by omega)
      have pa5 := hc 5 (by omega)
      have pa6 := hc 6 (by omega)
      have pa7 := hc 7 (by omega)
      have pa8 := hc 8 (by omega)
      have pa9 := hc 9 (by omega)
      have pa10 := hc 10 (by omega)
      have pa11 := hc 11 (by omega)
      simp [RPth.cells] at pa0 pa1 pa2 pa3 pa4 pa5 pa6 pa7 pa8 pa9 pa10 pa11
      have hk0 : (0 : Int) ≤ (k : Int) := by omega
      have hkL : (k : Int) < (t.l.length : Int) := by omega
      have ek : ((k + 1 : Nat) : Int) = (k : Int) + 1 := by omega
      have Ek := Lib.hid ek
      have hs := rbest_succ (now := now) hq
      have Hq := Lib.hid hq
      have Fin := Lib.hid fin
      have hth := fun (bo : Bool) (hb : rthere t q.p now = bo) (w' : World) (h : RM w' b base (some ⟨g, 0, none⟩) cap t) => rthere_any h q now hn hla bo hb
      have hsq := fun (w' : World) => rscore_any q w' m1 m2
      unfold RPth.cells at hth hsq
      have HSq := Lib.hid hsq
      cases hthe : rthere t q.p now with
      | false =>
        have ht := hth false hthe
        rw [hthe] at hs
        simp only [Bool.false_and, Bool.false_eq_true, if_false] at hs
        have HT := Lib.hid ht
        have Hs := Lib.hid hs
        clear hc hq hth hsq ht hs hthe ek m1 m2 fin hmem
        go_wp2_with fail
        refine wp_region_held_drew (S := (fun w' => w'.cell? ⟨b, 4, none⟩ = some (.slice (some ⟨g, 0, none⟩) t.l.length cap) ∧ w'.cell? ⟨g, k * 12, none⟩ = some (.bool q.p.e.v6) ∧ w'.cell? ⟨g, k * 12 + 1, none⟩ = some (.int .u64 (q.p.e.hi : Int)) ∧ w'.cell? ⟨g, k * 12 + 2, none⟩ = some (.int .u64 (q.p.e.lo : Int)) ∧ w'.cell? ⟨g, k * 12 + 3, none⟩ = some (.int .u16 (q.p.e.port : Int)) ∧ w'.cell? ⟨g, k * 12 + 4, none⟩ = some (.float .f64 q.p.x) ∧ w'.cell? ⟨g, k * 12 + 5, none⟩ = some (.float .f64 q.p.y) ∧ w'.cell? ⟨g, k * 12 + 6, none⟩ = some (.bool q.p.heard) ∧ w'.cell? ⟨g, k * 12 + 7, none⟩ = some (.int .u64 (q.p.last : Int)) ∧ w'.cell? ⟨g, k * 12 + 8, none⟩ = some (.int .i64 q.p.lost) ∧ w'.cell? ⟨g, k * 12 + 9, none⟩ = some (.bool q.waits) ∧ w'.cell? ⟨g, k * 12 + 10, none⟩ = some (.string q.tx) ∧ w'.cell? ⟨g, k * 12 + 11, none⟩ = some (.int .u64 (q.at_ : Int)))) (by kernel_rfl) ⟨pd, pa0, pa1, pa2, pa3, pa4, pa5, pa6, pa7, pa8, pa9, pa10, pa11⟩ (fun hHeld => ?_)
        refine' wpAnyH_take (i := 0) (v := _) rfl (by kernel_rfl) (by kernel_rfl) (by kernel_rfl) (fun _ _ _ h => h) (Or.inl ⟨by rfl, ?hy1⟩) (by assumption) ?hrest1
        case hy1 =>
          intro w hSw
          try dsimp only at hSw
          go_simp
          try with_reducible rfl
        try simp only [Act.put, List.setIfInBounds_toArray, List.set_cons_zero, List.set_cons_succ, List.getElem_toArray, List.getElem_cons_zero, List.getElem_cons_succ]
        refine' wpAnyH_take (i := 1) (v := _) rfl (by kernel_rfl) (by kernel_rfl) (by kernel_rfl) (fun _ _ _ h => h) (Or.inl ⟨by rfl, ?hy2⟩) (by assumption) ?hrest2
        case hy2 =>
          intro w hSw
          try dsimp only at hSw
          go_simp
          try with_reducible rfl
        try simp only [Act.put, List.setIfInBounds_toArray, List.set_cons_zero, List.set_cons_succ, List.getElem_toArray, List.getElem_cons_zero, List.getElem_cons_succ]
        refine' wpAnyH_take (i := 2) (v := _) rfl (by kernel_rfl) (by kernel_rfl) (by kernel_rfl) (fun _ _ _ h => h) (Or.inl ⟨by rfl, ?hy3⟩) (by assumption) ?hrest3
        case hy3 =>
          intro w hSw
          try dsimp only at hSw
          go_simp
          try with_reducible rfl
        try simp only [Act.put, List.setIfInBounds_toArray, List.set_cons_zero, List.set_cons_succ, List.getElem_toArray, List.getElem_cons_zero, List.getElem_cons_succ]
        refine' wpAnyH_take (i := 3) (v := _) rfl (by kernel_rfl) (by kernel_rfl) (by kernel_rfl) (fun _ _ _ h => h) (Or.inl ⟨by rfl, ?hy4⟩) (by assumption) ?hrest4
        case hy4 =>
          intro w hSw
          try dsimp only at hSw
          go_simp
          try with_reducible rfl
        try simp only [Act.put, List.setIfInBounds_toArray, List.set_cons_zero, List.set_cons_succ, List.getElem_toArray, List.getElem_cons_zero, List.getElem_cons_succ]
        refine' wpAnyH_take (i := 4) (v := _) rfl (by kernel_rfl) (by kernel_rfl) (by kernel_rfl) (fun _ _ _ h => h) (Or.inl ⟨by rfl, ?hy5⟩) (by assumption) ?hrest5
        case hy5 =>
          intro w hSw
          try dsimp only at hSw
          go_simp
          try with_reducible rfl
        try simp only [Act.put, List.setIfInBounds_toArray, List.set_cons_zero, List.set_cons_succ, List.getElem_toArray, List.getElem_cons_zero, List.getElem_cons_succ]
        refine' wpAnyH_take (i := 5) (v := _) rfl (by kernel_rfl) (by kernel_rfl) (by kernel_rfl) (fun _ _ _ h => h) (Or.inl ⟨by rfl, ?hy6⟩) (by assumption) ?hrest6
        case hy6 =>
          intro w hSw
          try dsimp only at hSw
          go_simp
          try with_reducible rfl
        try simp only [Act.put, List.setIfInBounds_toArray, List.set_cons_zero, List.set_cons_succ, List.getElem_toArray, List.getElem_cons_zero, List.getElem_cons_succ]
        refine' wpAnyH_take (i := 6) (v := _) rfl (by kernel_rfl) (by kernel_rfl) (by kernel_rfl) (fun _ _ _ h => h) (Or.inl ⟨by rfl, ?hy7⟩) (by assumption) ?hrest7
        case hy7 =>
          intro w hSw
          try dsimp only at hSw
          go_simp
          try with_reducible rfl
        try simp only [Act.put, List.setIfInBounds_toArray, List.set_cons_zero, List.set_cons_succ, List.getElem_toArray, List.getElem_cons_zero, List.getElem_cons_succ]
        refine' wpAnyH_take (i := 7) (v := _) rfl (by kernel_rfl) (by kernel_rfl) (by kernel_rfl) (fun _ _ _ h => h) (Or.inl ⟨by rfl, ?hy8⟩) (by assumption) ?hrest8
        case hy8 =>
          intro w hSw
          try dsimp only at hSw
          go_simp
          try with_reducible rfl
        try simp only [Act.put, List.setIfInBounds_toArray, List.set_cons_zero, List.set_cons_succ, List.getElem_toArray, List.getElem_cons_zero, List.getElem_cons_succ]
        refine' wpAnyH_take (i := 8) (v := _) rfl (by kernel_rfl) (by kernel_rfl) (by kernel_rfl) (fun _ _ _ h => h) (Or.inl ⟨by rfl, ?hy9⟩) (by assumption) ?hrest9
        case hy9 =>
          intro w hSw
          try dsimp only at hSw
          go_simp
          try with_reducible rfl
        try simp only [Act.put, List.setIfInBounds_toArray, List.set_cons_zero, List.set_cons_succ, List.getElem_toArray, List.getElem_cons_zero, List.getElem_cons_succ]
        refine wpAnyH_ready (rs := [9]) (by kernel_rfl) (by simp) ?_
        refine AllReadyH.cons rfl (fun K hK => ?_) AllReadyH.nil
        go_simp
        refine (HT.out _ hR.drew).mono ?_
        rintro r v1 ⟨rfl, g1⟩
        have hR1 := RM.below hR.drew g1
        have yd := hR1.cells.2.2.2.2.1
        obtain ⟨ya0, ya1, ya2, ya3, ya4, ya5, ya6, ya7, ya8, ya9, ya10, ya11⟩ := hR1.at12 Hq.out
        refine hK.out _ _ ⟨yd, ya0, ya1, ya2, ya3, ya4, ya5, ya6, ya7, ya8, ya9, ya10, ya11⟩ (fun hHeld2 => ?_)
        clear hK K
        try simp only [Act.put, List.setIfInBounds_toArray, List.set_cons_zero, List.set_cons_succ, List.getElem_toArray, List.getElem_cons_zero, List.getElem_cons_succ]
        refine' wpAnyH_take (i := 10) (v := _) rfl (by kernel_rfl) (by kernel_rfl) (by kernel_rfl) (fun _ _ _ h => h) (Or.inl ⟨by rfl, ?hy10⟩) (by assumption) ?hrest10
        case hy10 =>
          intro w hSw
          try dsimp only at hSw
          go_simp
          try with_reducible rfl
        try simp only [Act.put, List.setIfInBounds_toArray, List.set_cons_zero, List.set_cons_succ, List.getElem_toArray, List.getElem_cons_zero, List.getElem_cons_succ]
        refine' wpAnyH_take (i := 11) (v := undef) rfl (by kernel_rfl) (by kernel_rfl) (by kernel_rfl) (fun _ _ _ h => h) (Or.inr ⟨by rfl, rfl⟩) (by assumption) ?hrest11
        try simp only [Act.put, List.setIfInBounds_toArray, List.set_cons_zero, List.set_cons_succ, List.getElem_toArray, List.getElem_cons_zero, List.getElem_cons_succ]
        refine' wpAnyH_take (i := 12) (v := undef) rfl (by kernel_rfl) (by kernel_rfl) (by kernel_rfl) (fun _ _ _ h => h) (Or.inr ⟨by rfl, rfl⟩) (by assumption) ?hrest12
        try simp only [Act.put, List.setIfInBounds_toArray, List.set_cons_zero, List.set_cons_succ, List.getElem_toArray, List.getElem_cons_zero, List.getElem_cons_succ]
        refine' wpAnyH_take (i := 13) (v := undef) rfl (by kernel_rfl) (by kernel_rfl) (by kernel_rfl) (fun _ _ _ h => h) (Or.inr ⟨by rfl, rfl⟩) (by assumption) ?hrest13
        try simp only [Act.put, List.setIfInBounds_toArray, List.set_cons_zero, List.set_cons_succ, List.getElem_toArray, List.getElem_cons_zero, List.getElem_cons_succ]
        refine' wpAnyH_take (i := 14) (v := undef) rfl (by kernel_rfl) (by kernel_rfl) (by kernel_rfl) (fun _ _ _ h => h) (Or.inr ⟨by rfl, rfl⟩) (by assumption) ?hrest14
        try simp only [Act.put, List.setIfInBounds_toArray, List.set_cons_zero, List.set_cons_succ, List.getElem_toArray, List.getElem_cons_zero, List.getElem_cons_succ]
        refine' wpAnyH_take (i := 15) (v := undef) rfl (by kernel_rfl) (by kernel_rfl) (by kernel_rfl) (fun _ _ _ h => h) (Or.inr ⟨by rfl, rfl⟩) (by assumption) ?hrest15
        try simp only [Act.put, List.setIfInBounds_toArray, List.set_cons_zero, List.set_cons_succ, List.getElem_toArray, List.getElem_cons_zero, List.getElem_cons_succ]
        refine' wpAnyH_take (i := 16) (v := undef) rfl (by kernel_rfl) (by kernel_rfl) (by kernel_rfl) (fun _ _ _ h => h) (Or.inr ⟨by rfl, rfl⟩) (by assumption) ?hrest16
        try simp only [Act.put, List.setIfInBounds_toArray, List.set_cons_zero, List.set_cons_succ, List.getElem_toArray, List.getElem_cons_zero, List.getElem_cons_succ]
        refine' wpAnyH_take (i := 17) (v := undef) rfl (by kernel_rfl) (by kernel_rfl) (by kernel_rfl) (fun _ _ _ h => h) (Or.inr ⟨by rfl, rfl⟩) (by assumption) ?hrest17
        try simp only [Act.put, List.setIfInBounds_toArray, List.set_cons_zero, List.set_cons_succ, List.getElem_toArray, List.getElem_cons_zero, List.getElem_cons_succ]
        refine' wpAnyH_take (i := 18) (v := undef) rfl (by kernel_rfl) (by kernel_rfl) (by kernel_rfl) (fun _ _ _ h => h) (Or.inr ⟨by rfl, rfl⟩) (by assumption) ?hrest18
        try simp only [Act.put, List.setIfInBounds_toArray, List.set_cons_zero, List.set_cons_succ, List.getElem_toArray, List.getElem_cons_zero, List.getElem_cons_succ]
        refine' wpAnyH_take (i := 19) (v := undef) rfl (by kernel_rfl) (by kernel_rfl) (by kernel_rfl) (fun _ _ _ h => h) (Or.inr ⟨by rfl, rfl⟩) (by assumption) ?hrest19
        try simp only [Act.put, List.setIfInBounds_toArray, List.set_cons_zero, List.set_cons_succ, List.getElem_toArray, List.getElem_cons_zero, List.getElem_cons_succ]
        refine' wpAnyH_take (i := 20) (v := undef) rfl (by kernel_rfl) (by kernel_rfl) (by kernel_rfl) (fun _ _ _ h => h) (Or.inr ⟨by rfl, rfl⟩) (by assumption) ?hrest20
        try simp only [Act.put, List.setIfInBounds_toArray, List.set_cons_zero, List.set_cons_succ, List.getElem_toArray, List.getElem_cons_zero, List.getElem_cons_succ]
        refine' wpAnyH_take (i := 21) (v := undef) rfl (by kernel_rfl) (by kernel_rfl) (by kernel_rfl) (fun _ _ _ h => h) (Or.inr ⟨by rfl, rfl⟩) (by assumption) ?hrest21
        try simp only [Act.put, List.setIfInBounds_toArray, List.set_cons_zero, List.set_cons_succ, List.getElem_toArray, List.getElem_cons_zero, List.getElem_cons_succ]
        refine' wpAnyH_take (i := 22) (v := undef) rfl (by kernel_rfl) (by kernel_rfl) (by kernel_rfl) (fun _ _ _ h => h) (Or.inr ⟨by rfl, rfl⟩) (by assumption) ?hrest22
        try simp only [Act.put, List.setIfInBounds_toArray, List.set_cons_zero, List.set_cons_succ, List.getElem_toArray, List.getElem_cons_zero, List.getElem_cons_succ]
        refine' wpAnyH_take (i := 23) (v := undef) rfl (by kernel_rfl) (by kernel_rfl) (by kernel_rfl) (fun _ _ _ h => h) (Or.inr ⟨by rfl, rfl⟩) (by assumption) ?hrest23
        try simp only [Act.put, List.setIfInBounds_toArray, List.set_cons_zero, List.set_cons_succ, List.getElem_toArray, List.getElem_cons_zero, List.getElem_cons_succ]
        refine' wpAnyH_take (i := 24) (v := undef) rfl (by kernel_rfl) (by kernel_rfl) (by kernel_rfl) (fun _ _ _ h => h) (Or.inr ⟨by rfl, rfl⟩) (by assumption) ?hrest24
        try simp only [Act.put, List.setIfInBounds_toArray, List.set_cons_zero, List.set_cons_succ, List.getElem_toArray, List.getElem_cons_zero, List.getElem_cons_succ]
        refine' wpAnyH_take (i := 25) (v := undef) rfl (by kernel_rfl) (by kernel_rfl) (by kernel_rfl) (fun _ _ _ h => h) (Or.inr ⟨by rfl, rfl⟩) (by assumption) ?hrest25
        try simp only [Act.put, List.setIfInBounds_toArray, List.set_cons_zero, List.set_cons_succ, List.getElem_toArray, List.getElem_cons_zero, List.getElem_cons_succ]
        refine' wpAnyH_take (i := 26) (v := undef) rfl (by kernel_rfl) (by kernel_rfl) (by kernel_rfl) (fun _ _ _ h => h) (Or.inr ⟨by rfl, rfl⟩) (by assumption) ?hrest26
        try simp only [Act.put, List.setIfInBounds_toArray, List.set_cons_zero, List.set_cons_succ, List.getElem_toArray, List.getElem_cons_zero, List.getElem_cons_succ]
        refine' wpAnyH_take (i := 27) (v := undef) rfl (by kernel_rfl) (by kernel_rfl) (by kernel_rfl) (fun _ _ _ h => h) (Or.inr ⟨by rfl, rfl⟩) (by assumption) ?hrest27
        try simp only [Act.put, List.setIfInBounds_toArray, List.set_cons_zero, List.set_cons_succ, List.getElem_toArray, List.getElem_cons_zero, List.getElem_cons_succ]
        refine' wpAnyH_take (i := 28) (v := undef) rfl (by kernel_rfl) (by kernel_rfl) (by kernel_rfl) (fun _ _ _ h => h) (Or.inr ⟨by rfl, rfl⟩) (by assumption) ?hrest28
        try simp only [Act.put, List.setIfInBounds_toArray, List.set_cons_zero, List.set_cons_succ, List.getElem_toArray, List.getElem_cons_zero, List.getElem_cons_succ]
        refine' wpAnyH_take (i := 29) (v := undef) rfl (by kernel_rfl) (by kernel_rfl) (by kernel_rfl) (fun _ _ _ h => h) (Or.inr ⟨by rfl, rfl⟩) (by assumption) ?hrest29
        try simp only [Act.put, List.setIfInBounds_toArray, List.set_cons_zero, List.set_cons_succ, List.getElem_toArray, List.getElem_cons_zero, List.getElem_cons_succ]
        refine' wpAnyH_take (i := 30) (v := undef) rfl (by kernel_rfl) (by kernel_rfl) (by kernel_rfl) (fun _ _ _ h => h) (Or.inr ⟨by rfl, rfl⟩) (by assumption) ?hrest30
        try simp only [Act.put, List.setIfInBounds_toArray, List.set_cons_zero, List.set_cons_succ, List.getElem_toArray, List.getElem_cons_zero, List.getElem_cons_succ]
        refine' wpAnyH_take (i := 31) (v := undef) rfl (by kernel_rfl) (by kernel_rfl) (by kernel_rfl) (fun _ _ _ h => h) (Or.inr ⟨by rfl, rfl⟩) (by assumption) ?hrest31
        try simp only [Act.put, List.setIfInBounds_toArray, List.set_cons_zero, List.set_cons_succ, List.getElem_toArray, List.getElem_cons_zero, List.getElem_cons_succ]
        refine' wpAnyH_take (i := 32) (v := _) rfl (by kernel_rfl) (by kernel_rfl) (by kernel_rfl) (fun _ _ _ h => h) (Or.inl ⟨by rfl, ?hy32⟩) (by assumption) ?hrest32
        case hy32 =>
          intro w hSw
          try dsimp only at hSw
          go_simp
          try with_reducible rfl
        try simp only [Act.put, List.setIfInBounds_toArray, List.set_cons_zero, List.set_cons_succ, List.getElem_toArray, List.getElem_cons_zero, List.getElem_cons_succ]
        refine wpAnyH_done (by kernel_rfl) ?_ _
        have b1 : Below (w.heap.size + 1) (w.alloc (.cells #[.bool false, .int .u64 0, .int .u64 0, .int .u16 0] 35)) v1 := br.trans (show Below _ wr v1 from ⟨g1.os, g1.tape, g1.output, g1.size, fun i hi => g1.block i (Nat.lt_of_lt_of_le hi hbs)⟩)
        go_wp2_with fail
        go_roundw
        case rel => exact ⟨k + 1, by omega, by rw [Hs.out], by rw [Ek.out], b1⟩
        case measure => simp [intOf]; omega
      | true =>
        have ht := hth true hthe
        rw [hthe, Bool.true_and] at hs
        have HT := Lib.hid ht
        cases hbm : rbest t now k with
        | none =>
          have hs2 : rbest t now (k + 1) = some k := by rw [hs, hbm]; rfl
          have Hs := Lib.hid hs2
          unfold oidx
          clear hc hq hth hsq ht hs hs2 hthe hbm ek m1 m2 fin hmem
          go_wp2_with fail
          refine wp_region_held_drew (S := (fun w' => w'.cell? ⟨b, 4, none⟩ = some (.slice (some ⟨g, 0, none⟩) t.l.length cap) ∧ w'.cell? ⟨g, k * 12, none⟩ = some (.bool q.p.e.v6) ∧ w'.cell? ⟨g, k * 12 + 1, none⟩ = some (.int .u64 (q.p.e.hi : Int)) ∧ w'.cell? ⟨g, k * 12 + 2, none⟩ = some (.int .u64 (q.p.e.lo : Int)) ∧ w'.cell? ⟨g, k * 12 + 3, none⟩ = some (.int .u16 (q.p.e.port : Int)) ∧ w'.cell? ⟨g, k * 12 + 4, none⟩ = some (.float .f64 q.p.x) ∧ w'.cell? ⟨g, k * 12 + 5, none⟩ = some (.float .f64 q.p.y) ∧ w'.cell? ⟨g, k * 12 + 6, none⟩ = some (.bool q.p.heard) ∧ w'.cell? ⟨g, k * 12 + 7, none⟩ = some (.int .u64 (q.p.last : Int)) ∧ w'.cell? ⟨g, k * 12 + 8, none⟩ = some (.int .i64 q.p.lost) ∧ w'.cell? ⟨g, k * 12 + 9, none⟩ = some (.bool q.waits) ∧ w'.cell? ⟨g, k * 12 + 10, none⟩ = some (.string q.tx) ∧ w'.cell? ⟨g, k * 12 + 11, none⟩ = some (.int .u64 (q.at_ : Int)))) (by kernel_rfl) ⟨pd, pa0, pa1, pa2, pa3, pa4, pa5, pa6, pa7, pa8, pa9, pa10, pa11⟩ (fun hHeld => ?_)
          refine' wpAnyH_take (i := 0) (v := _) rfl (by kernel_rfl) (by kernel_rfl) (by kernel_rfl) (fun _ _ _ h => h) (Or.inl ⟨by rfl, ?hy33⟩) (by assumption) ?hrest33
          case hy33 =>
            intro w hSw
            try dsimp only at hSw
            go_simp
            try with_reducible rfl
          try simp only [Act.put, List.setIfInBounds_toArray, List.set_cons_zero, List.set_cons_succ, List.getElem_toArray, List.getElem_cons_zero, List.getElem_cons_succ]
          refine' wpAnyH_take (i := 1) (v := _) rfl (by kernel_rfl) (by kernel_rfl) (by kernel_rfl) (fun _ _ _ h => h) (Or.inl ⟨by rfl, ?hy34⟩) (by assumption) ?hrest34
          case hy34 =>
            intro w hSw
            try dsimp only at hSw
            go_simp
            try with_reducible rfl
          try simp only [Act.put, List.setIfInBounds_toArray, List.set_cons_zero, List.set_cons_succ, List.getElem_toArray, List.getElem_cons_zero, List.getElem_cons_succ]
          refine' wpAnyH_take (i := 2) (v := _) rfl (by kernel_rfl) (by kernel_rfl) (by kernel_rfl) (fun _ _ _ h => h) (Or.inl ⟨by rfl, ?hy35⟩) (by assumption) ?hrest35
          case hy35 =>
            intro w hSw
            try dsimp only at hSw
            go_simp
            try with_reducible rfl
          try simp only [Act.put, List.setIfInBounds_toArray, List.set_cons_zero, List.set_cons_succ, List.getElem_toArray, List.getElem_cons_zero, List.getElem_cons_succ]
          refine' wpAnyH_take (i := 3) (v := _) rfl (by kernel_rfl) (by kernel_rfl) (by kernel_rfl) (fun _ _ _ h => h) (Or.inl ⟨by rfl, ?hy36⟩) (by assumption) ?hrest36
          case hy36 =>
            intro w hSw
            try dsimp only at hSw
            go_simp
            try with_reducible rfl
          try simp only [Act.put, List.setIfInBounds_toArray, List.set_cons_zero, List.set_cons_succ, List.getElem_toArray, List.getElem_cons_zero, List.getElem_cons_succ]
          refine' wpAnyH_take (i := 4) (v := _) rfl (by kernel_rfl) (by kernel_rfl) (by kernel_rfl) (fun _ _ _ h => h) (Or.inl ⟨by rfl, ?hy37⟩) (by assumption) ?hrest37
          case hy37 =>
            intro w hSw
            try dsimp only at hSw
            go_simp
            try with_reducible rfl
          try simp only [Act.put, List.setIfInBounds_toArray, List.set_cons_zero, List.set_cons_succ, List.getElem_toArray, List.getElem_cons_zero, List.getElem_cons_succ]
          refine' wpAnyH_take (i := 5) (v := _) rfl (by kernel_rfl) (by kernel_rfl) (by kernel_rfl) (fun _ _ _ h => h) (Or.inl ⟨by rfl, ?hy38⟩) (by assumption) ?hrest38
          case hy38 =>
            intro w hSw
            try dsimp only at hSw
            go_simp
            try with_reducible rfl
          try simp only [Act.put, List.setIfInBounds_toArray, List.set_cons_zero, List.set_cons_succ, List.getElem_toArray, List.getElem_cons_zero, List.getElem_cons_succ]
          refine' wpAnyH_take (i := 6) (v := _) rfl (by kernel_rfl) (by kernel_rfl) (by kernel_rfl) (fun _ _ _ h => h) (Or.inl ⟨by rfl, ?hy39⟩) (by assumption) ?hrest39
          case hy39 =>
            intro w hSw
            try dsimp only at hSw
            go_simp
            try with_reducible rfl
          try simp only [Act.put, List.setIfInBounds_toArray, List.set_cons_zero, List.set_cons_succ, List.getElem_toArray, List.getElem_cons_zero, List.getElem_cons_succ]
          refine' wpAnyH_take (i := 7) (v := _) rfl (by kernel_rfl) (by kernel_rfl) (by kernel_rfl) (fun _ _ _ h => h) (Or.inl ⟨by rfl, ?hy40⟩) (by assumption) ?hrest40
          case hy40 =>
            intro w hSw
            try dsimp only at hSw
            go_simp
            try with_reducible rfl
          try simp only [Act.put, List.setIfInBounds_toArray, List.set_cons_zero, List.set_cons_succ, List.getElem_toArray, List.getElem_cons_zero, List.getElem_cons_succ]
          refine' wpAnyH_take (i := 8) (v := _) rfl (by kernel_rfl) (by kernel_rfl) (by kernel_rfl) (fun _ _ _ h => h) (Or.inl ⟨by rfl, ?hy41⟩) (by assumption) ?hrest41
          case hy41 =>
            intro w hSw
            try dsimp only at hSw
            go_simp
            try with_reducible rfl
          try simp only [Act.put, List.setIfInBounds_toArray, List.set_cons_zero, List.set_cons_succ, List.getElem_toArray, List.getElem_cons_zero, List.getElem_cons_succ]
          refine wpAnyH_ready (rs := [9]) (by kernel_rfl) (by simp) ?_
          refine AllReadyH.cons rfl (fun K hK => ?_) AllReadyH.nil
          go_simp
          refine (HT.out _ hR.drew).mono ?_
          rintro r v1 ⟨rfl, g1⟩
          have hR1 := RM.below hR.drew g1
          have yd := hR1.cells.2.2.2.2.1
          obtain ⟨ya0, ya1, ya2, ya3, ya4, ya5, ya6, ya7, ya8, ya9, ya10, ya11⟩ := hR1.at12 Hq.out
          refine hK.out _ _ ⟨yd, ya0, ya1, ya2, ya3, ya4, ya5, ya6, ya7, ya8, ya9, ya10, ya11⟩ (fun hHeld2 => ?_)
          clear hK K
          try simp only [Act.put, List.setIfInBounds_toArray, List.set_cons_zero, List.set_cons_succ, List.getElem_toArray, List.getElem_cons_zero, List.getElem_cons_succ]
          refine' wpAnyH_take (i := 10) (v := _) rfl (by kernel_rfl) (by kernel_rfl) (by kernel_rfl) (fun _ _ _ h => h) (Or.inl ⟨by rfl, ?hy42⟩) (by assumption) ?hrest42
          case hy42 =>
            intro w hSw
            try dsimp only at hSw
            go_simp
            try with_reducible rfl
          try simp only [Act.put, List.setIfInBounds_toArray, List.set_cons_zero, List.set_cons_succ, List.getElem_toArray, List.getElem_cons_zero, List.getElem_cons_succ]
          refine' wpAnyH_take (i := 11) (v := _) rfl (by kernel_rfl) (by kernel_rfl) (by kernel_rfl) (fun _ _ _ h => h) (Or.inl ⟨by rfl, ?hy43⟩) (by assumption) ?hrest43
          case hy43 =>
            intro w hSw
            try dsimp only at hSw
            go_simp
            try with_reducible rfl
          try simp only [Act.put, List.setIfInBounds_toArray, List.set_cons_zero, List.set_cons_succ, List.getElem_toArray, List.getElem_cons_zero, List.getElem_cons_succ]
          refine' wpAnyH_take (i := 12) (v := _) rfl (by kernel_rfl) (by kernel_rfl) (by kernel_rfl) (fun _ _ _ h => h) (Or.inl ⟨by rfl, ?hy44⟩) (by assumption) ?hrest44
          case hy44 =>
            intro w hSw
            try dsimp only at hSw
            go_simp
            try with_reducible rfl
          try simp only [Act.put, List.setIfInBounds_toArray, List.set_cons_zero, List.set_cons_succ, List.getElem_toArray, List.getElem_cons_zero, List.getElem_cons_succ]
          refine' wpAnyH_take (i := 13) (v := _) rfl (by kernel_rfl) (by kernel_rfl) (by kernel_rfl) (fun _ _ _ h => h) (Or.inl ⟨by rfl, ?hy45⟩) (by assumption) ?hrest45
          case hy45 =>
            intro w hSw
            try dsimp only at hSw
            go_simp
            try with_reducible rfl
          try simp only [Act.put, List.setIfInBounds_toArray, List.set_cons_zero, List.set_cons_succ, List.getElem_toArray, List.getElem_cons_zero, List.getElem_cons_succ]
          refine' wpAnyH_take (i := 14) (v := undef) rfl (by kernel_rfl) (by kernel_rfl) (by kernel_rfl) (fun _ _ _ h => h) (Or.inr ⟨by rfl, rfl⟩) (by assumption) ?hrest46
          try simp only [Act.put, List.setIfInBounds_toArray, List.set_cons_zero, List.set_cons_succ, List.getElem_toArray, List.getElem_cons_zero, List.getElem_cons_succ]
          refine' wpAnyH_take (i := 15) (v := undef) rfl (by kernel_rfl) (by kernel_rfl) (by kernel_rfl) (fun _ _ _ h => h) (Or.inr ⟨by rfl, rfl⟩) (by assumption) ?hrest47
          try simp only [Act.put, List.setIfInBounds_toArray, List.set_cons_zero, List.set_cons_succ, List.getElem_toArray, List.getElem_cons_zero, List.getElem_cons_succ]
          refine' wpAnyH_take (i := 16) (v := undef) rfl (by kernel_rfl) (by kernel_rfl) (by kernel_rfl) (fun _ _ _ h => h) (Or.inr ⟨by rfl, rfl⟩) (by assumption) ?hrest48
          try simp only [Act.put, List.setIfInBounds_toArray, List.set_cons_zero, List.set_cons_succ, List.getElem_toArray, List.getElem_cons_zero, List.getElem_cons_succ]
          refine' wpAnyH_take (i := 17) (v := undef) rfl (by kernel_rfl) (by kernel_rfl) (by kernel_rfl) (fun _ _ _ h => h) (Or.inr ⟨by rfl, rfl⟩) (by assumption) ?hrest49
          try simp only [Act.put, List.setIfInBounds_toArray, List.set_cons_zero, List.set_cons_succ, List.getElem_toArray, List.getElem_cons_zero, List.getElem_cons_succ]
          refine' wpAnyH_take (i := 18) (v := undef) rfl (by kernel_rfl) (by kernel_rfl) (by kernel_rfl) (fun _ _ _ h => h) (Or.inr ⟨by rfl, rfl⟩) (by assumption) ?hrest50
          try simp only [Act.put, List.setIfInBounds_toArray, List.set_cons_zero, List.set_cons_succ, List.getElem_toArray, List.getElem_cons_zero, List.getElem_cons_succ]
          refine' wpAnyH_take (i := 19) (v := undef) rfl (by kernel_rfl) (by kernel_rfl) (by kernel_rfl) (fun _ _ _ h => h) (Or.inr ⟨by rfl, rfl⟩) (by assumption) ?hrest51
          try simp only [Act.put, List.setIfInBounds_toArray, List.set_cons_zero, List.set_cons_succ, List.getElem_toArray, List.getElem_cons_zero, List.getElem_cons_succ]
          refine' wpAnyH_take (i := 20) (v := undef) rfl (by kernel_rfl) (by kernel_rfl) (by kernel_rfl) (fun _ _ _ h => h) (Or.inr ⟨by rfl, rfl⟩) (by assumption) ?hrest52
          try simp only [Act.put, List.setIfInBounds_toArray, List.set_cons_zero, List.set_cons_succ, List.getElem_toArray, List.getElem_cons_zero, List.getElem_cons_succ]
          refine' wpAnyH_take (i := 21) (v := undef) rfl (by kernel_rfl) (by kernel_rfl) (by kernel_rfl) (fun _ _ _ h => h) (Or.inr ⟨by rfl, rfl⟩) (by assumption) ?hrest53
          try simp only [Act.put, List.setIfInBounds_toArray, List.set_cons_zero, List.set_cons_succ, List.getElem_toArray, List.getElem_cons_zero, List.getElem_cons_succ]
          refine' wpAnyH_take (i := 22) (v := undef) rfl (by kernel_rfl) (by kernel_rfl) (by kernel_rfl) (fun _ _ _ h => h) (Or.inr ⟨by rfl, rfl⟩) (by assumption) ?hrest54
          try simp only [Act.put, List.setIfInBounds_toArray, List.set_cons_zero, List.set_cons_succ, List.getElem_toArray, List.getElem_cons_zero, List.getElem_cons_succ]
          refine' wpAnyH_take (i := 23) (v := undef) rfl (by kernel_rfl) (by kernel_rfl) (by kernel_rfl) (fun _ _ _ h => h) (Or.inr ⟨by rfl, rfl⟩) (by assumption) ?hrest55
          try simp only [Act.put, List.setIfInBounds_toArray, List.set_cons_zero, List.set_cons_succ, List.getElem_toArray, List.getElem_cons_zero, List.getElem_cons_succ]
          refine' wpAnyH_take (i := 24) (v := undef) rfl (by kernel_rfl) (by kernel_rfl) (by kernel_rfl) (fun _ _ _ h => h) (Or.inr ⟨by rfl, rfl⟩) (by assumption) ?hrest56
          try simp only [Act.put, List.setIfInBounds_toArray, List.set_cons_zero, List.set_cons_succ, List.getElem_toArray, List.getElem_cons_zero, List.getElem_cons_succ]
          refine' wpAnyH_take (i := 25) (v := undef) rfl (by kernel_rfl) (by kernel_rfl) (by kernel_rfl) (fun _ _ _ h => h) (Or.inr ⟨by rfl, rfl⟩) (by assumption) ?hrest57
          try simp only [Act.put, List.setIfInBounds_toArray, List.set_cons_zero, List.set_cons_succ, List.getElem_toArray, List.getElem_cons_zero, List.getElem_cons_succ]
          refine' wpAnyH_take (i := 26) (v := undef) rfl (by kernel_rfl) (by kernel_rfl) (by kernel_rfl) (fun _ _ _ h => h) (Or.inr ⟨by rfl, rfl⟩) (by assumption) ?hrest58
          try simp only [Act.put, List.setIfInBounds_toArray, List.set_cons_zero, List.set_cons_succ, List.getElem_toArray, List.getElem_cons_zero, List.getElem_cons_succ]
          refine' wpAnyH_take (i := 27) (v := undef) rfl (by kernel_rfl) (by kernel_rfl) (by kernel_rfl) (fun _ _ _ h => h) (Or.inr ⟨by rfl, rfl⟩) (by assumption) ?hrest59
          try simp only [Act.put, List.setIfInBounds_toArray, List.set_cons_zero, List.set_cons_succ, List.getElem_toArray, List.getElem_cons_zero, List.getElem_cons_succ]
          refine' wpAnyH_take (i := 28) (v := undef) rfl (by kernel_rfl) (by kernel_rfl) (by kernel_rfl) (fun _ _ _ h => h) (Or.inr ⟨by rfl, rfl⟩) (by assumption) ?hrest60
          try simp only [Act.put, List.setIfInBounds_toArray, List.set_cons_zero, List.set_cons_succ, List.getElem_toArray, List.getElem_cons_zero, List.getElem_cons_succ]
          refine' wpAnyH_take (i := 29) (v := undef) rfl (by kernel_rfl) (by kernel_rfl) (by kernel_rfl) (fun _ _ _ h => h) (Or.inr ⟨by rfl, rfl⟩) (by assumption) ?hrest61
          try simp only [Act.put, List.setIfInBounds_toArray, List.set_cons_zero, List.set_cons_succ, List.getElem_toArray, List.getElem_cons_zero, List.getElem_cons_succ]
          refine' wpAnyH_take (i := 30) (v := undef) rfl (by kernel_rfl) (by kernel_rfl) (by kernel_rfl) (fun _ _ _ h => h) (Or.inr ⟨by rfl, rfl⟩) (by assumption) ?hrest62
          try simp only [Act.put, List.setIfInBounds_toArray, List.set_cons_zero, List.set_cons_succ, List.getElem_toArray, List.getElem_cons_zero, List.getElem_cons_succ]
          refine' wpAnyH_take (i := 31) (v := _) rfl (by kernel_rfl) (by kernel_rfl) (by kernel_rfl) (fun _ _ _ h => h) (Or.inl ⟨by rfl, ?hy63⟩) (by assumption) ?hrest63
          case hy63 =>
            intro w hSw
            try dsimp only at hSw
            go_simp
            try with_reducible rfl
          try simp only [Act.put, List.setIfInBounds_toArray, List.set_cons_zero, List.set_cons_succ, List.getElem_toArray, List.getElem_cons_zero, List.getElem_cons_succ]
          refine' wpAnyH_take (i := 32) (v := _) rfl (by kernel_rfl) (by kernel_rfl) (by kernel_rfl) (fun _ _ _ h => h) (Or.inl ⟨by rfl, ?hy64⟩) (by assumption) ?hrest64
          case hy64 =>
            intro w hSw
            try dsimp only at hSw
            go_simp
            try with_reducible rfl
          try simp only [Act.put, List.setIfInBounds_toArray, List.set_cons_zero, List.set_cons_succ, List.getElem_toArray, List.getElem_cons_zero, List.getElem_cons_succ]
          refine wpAnyH_done (by kernel_rfl) ?_ _
          have b1 : Below (w.heap.size + 1) (w.alloc (.cells #[.bool false, .int .u64 0, .int .u64 0, .int .u16 0] 35)) v1 := br.trans (show Below _ wr v1 from ⟨g1.os, g1.tape, g1.output, g1.size, fun i hi => g1.block i (Nat.lt_of_lt_of_le hi hbs)⟩)
          go_wp2_with fail
          go_roundw
          case rel => exact ⟨k + 1, by omega, by rw [Hs.out], by rw [Ek.out], b1⟩
          case measure => simp [intOf]; omega
        | some m =>
          obtain ⟨hmk, qm, hqm, _⟩ := rbest_lt t now k hk m hbm
          have hmemm := List.mem_of_getElem? hqm
          obtain ⟨mm2, m3, m4⟩ := fin.sc qm hmemm
          have hsm := fun (w' : World) => rscore_any qm w' m3 m4
          unfold RPth.cells at hsm
          have HSm := Lib.hid hsm
          have hm0 : (0 : Int) ≤ (m : Int) := by omega
          have hml : m < t.l.length := by omega
          have hg2 : rget t (some m) = some qm := hqm
          rw [hbm, hg2] at hs
          obtain ⟨pb0, pb1, pb2, pb3, pb4, pb5, pb6, pb7, pb8, pb9, pb10, pb11⟩ := hR.at12 hqm
          have Hqm := Lib.hid hqm
          unfold oidx
          cases hfl : flt (sc q.p) (sc qm.p) with
          | true =>
            have hfl2 : (FloatKind.f64.format.order (sc q.p) (sc qm.p) == some Ordering.lt) = true := hfl
            simp only [hfl, if_true] at hs
            have Hs := Lib.hid hs
            clear hc hq hth hsq ht hs hthe hbm ek m1 m2 fin hmem hmemm m3 m4 hsm hg2 hqm hfl
            go_wp2_with fail
            go_region_held3 (fun w' => w'.cell? ⟨b, 4, none⟩ = some (.slice (some ⟨g, 0, none⟩) t.l.length cap) ∧ w'.cell? ⟨g, k * 12, none⟩ = some (.bool q.p.e.v6) ∧ w'.cell? ⟨g, k * 12 + 1, none⟩ = some (.int .u64 (q.p.e.hi : Int)) ∧ w'.cell? ⟨g, k * 12 + 2, none⟩ = some (.int .u64 (q.p.e.lo : Int)) ∧ w'.cell? ⟨g, k * 12 + 3, none⟩ = some (.int .u16 (q.p.e.port : Int)) ∧ w'.cell? ⟨g, k * 12 + 4, none⟩ = some (.float .f64 q.p.x) ∧ w'.cell? ⟨g, k * 12 + 5, none⟩ = some (.float .f64 q.p.y) ∧ w'.cell? ⟨g, k * 12 + 6, none⟩ = some (.bool q.p.heard) ∧ w'.cell? ⟨g, k * 12 + 7, none⟩ = some (.int .u64 (q.p.last : Int)) ∧ w'.cell? ⟨g, k * 12 + 8, none⟩ = some (.int .i64 q.p.lost) ∧ w'.cell? ⟨g, k * 12 + 9, none⟩ = some (.bool q.waits) ∧ w'.cell? ⟨g, k * 12 + 10, none⟩ = some (.string q.tx) ∧ w'.cell? ⟨g, k * 12 + 11, none⟩ = some (.int .u64 (q.at_ : Int)) ∧ w'.cell? ⟨g, m * 12, none⟩ = some (.bool qm.p.e.v6) ∧ w'.cell? ⟨g, m * 12 + 1, none⟩ = some (.int .u64 (qm.p.e.hi : Int)) ∧ w'.cell? ⟨g, m * 12 + 2, none⟩ = some (.int .u64 (qm.p.e.lo : Int)) ∧ w'.cell? ⟨g, m * 12 + 3, none⟩ = some (.int .u16 (qm.p.e.port : Int)) ∧ w'.cell? ⟨g, m * 12 + 4, none⟩ = some (.float .f64 qm.p.x) ∧ w'.cell? ⟨g, m * 12 + 5, none⟩ = some (.float .f64 qm.p.y) ∧ w'.cell? ⟨g, m * 12 + 6, none⟩ = some (.bool qm.p.heard) ∧ w'.cell? ⟨g, m * 12 + 7, none⟩ = some (.int .u64 (qm.p.last : Int)) ∧ w'.cell? ⟨g, m * 12 + 8, none⟩ = some (.int .i64 qm.p.lost) ∧ w'.cell? ⟨g, m * 12 + 9, none⟩ = some (.bool qm.waits) ∧ w'.cell? ⟨g, m * 12 + 10, none⟩ = some (.string qm.tx) ∧ w'.cell? ⟨g, m * 12 + 11, none⟩ = some (.int .u64 (qm.at_ : Int)))
              (first | exact ⟨pd, pa0, pa1, pa2, pa3, pa4, pa5, pa6, pa7, pa8, pa9, pa10, pa11, pb0, pb1, pb2, pb3, pb4, pb5, pb6, pb7, pb8, pb9, pb10, pb11⟩ | exact ⟨yd, ya0, ya1, ya2, ya3, ya4, ya5, ya6, ya7, ya8, ya9, ya10, ya11, yb0, yb1, yb2, yb3, yb4, yb5, yb6, yb7, yb8, yb9, yb10, yb11⟩ | exact ⟨zd, za0, za1, za2, za3, za4, za5, za6, za7, za8, za9, za10, za11, zb0, zb1, zb2, zb3, zb4, zb5, zb6, zb7, zb8, zb9, zb10, zb11⟩ | exact ⟨ud, ua0, ua1, ua2, ua3, ua4, ua5, ua6, ua7, ua8, ua9, ua10, ua11, ub0, ub1, ub2, ub3, ub4, ub5, ub6, ub7, ub8, ub9, ub10, ub11⟩ | go_keep)
              (first
                | (go_at_call 50; refine (HT.out _ hR.drew).mono ?_; rintro r v1 ⟨rfl, g1⟩; have hR1 := RM.below hR.drew g1; have yd := hR1.cells.2.2.2.2.1; obtain ⟨ya0, ya1, ya2, ya3, ya4, ya5, ya6, ya7, ya8, ya9, ya10, ya11⟩ := hR1.at12 Hq.out; obtain ⟨yb0, yb1, yb2, yb3, yb4, yb5, yb6, yb7, yb8, yb9, yb10, yb11⟩ := hR1.at12 Hqm.out)
                | (go_at_call 51; refine (HSq.out _).mono ?_; rintro r v2 ⟨rfl, g2⟩; have hR2 := RM.below hR1 g2; have zd := hR2.cells.2.2.2.2.1; obtain ⟨za0, za1, za2, za3, za4, za5, za6, za7, za8, za9, za10, za11⟩ := hR2.at12 Hq.out; obtain ⟨zb0, zb1, zb2, zb3, zb4, zb5, zb6, zb7, zb8, zb9, zb10, zb11⟩ := hR2.at12 Hqm.out)
                | (go_at_call 51; refine (HSm.out _).mono ?_; rintro r v3 ⟨rfl, g3⟩; have hR3 := RM.below hR2 g3; have ud := hR3.cells.2.2.2.2.1; obtain ⟨ua0, ua1, ua2, ua3, ua4, ua5, ua6, ua7, ua8, ua9, ua10, ua11⟩ := hR3.at12 Hq.out; obtain ⟨ub0, ub1, ub2, ub3, ub4, ub5, ub6, ub7, ub8, ub9, ub10, ub11⟩ := hR3.at12 Hqm.out)
              )
            have b1 : Below (w.heap.size + 1) (w.alloc (.cells #[.bool false, .int .u64 0, .int .u64 0, .int .u16 0] 35)) v3 := ((br.trans (show Below _ wr v1 from ⟨g1.os, g1.tape, g1.output, g1.size, fun i hi => g1.block i (Nat.lt_of_lt_of_le hi hbs)⟩)).trans (g2.mono (Nat.le_trans hbs g1.size))).trans (g3.mono (Nat.le_trans (Nat.le_trans hbs g1.size) g2.size))
            go_wp2_with fail
            go_roundw
            case rel => exact ⟨k + 1, by omega, by rw [Hs.out], by rw [Ek.out], b1⟩
            case measure => simp [intOf]; omega
          | false =>
            have hfl2 : (FloatKind.f64.format.order (sc q.p) (sc qm.p) == some Ordering.lt) = false := hfl
            simp only [hfl, Bool.false_eq_true, if_false] at hs
            have Hs := Lib.hid hs
            clear hc hq hth hsq ht hs hthe hbm ek m1 m2 fin hmem hmemm m3 m4 hsm hg2 hqm hfl
            go_wp2_with fail
            go_region_held3 (fun w' => w'.cell? ⟨b, 4, none⟩ = some (.slice (some ⟨g, 0, none⟩) t.l.length cap) ∧ w'.cell? ⟨g, k * 12, none⟩ = some (.bool q.p.e.v6) ∧ w'.cell? ⟨g, k * 12 + 1, none⟩ = some (.int .u64 (q.p.e.hi : Int)) ∧ w'.cell? ⟨g, k * 12 + 2, none⟩ = some (.int .u64 (q.p.e.lo : Int)) ∧ w'.cell? ⟨g, k * 12 + 3, none⟩ = some (.int .u16 (q.p.e.port : Int)) ∧ w'.cell? ⟨g, k * 12 + 4, none⟩ = some (.float .f64 q.p.x) ∧ w'.cell? ⟨g, k * 12 + 5, none⟩ = some (.float .f64 q.p.y) ∧ w'.cell? ⟨g, k * 12 + 6, none⟩ = some (.bool q.p.heard) ∧ w'.cell? ⟨g, k * 12 + 7, none⟩ = some (.int .u64 (q.p.last : Int)) ∧ w'.cell? ⟨g, k * 12 + 8, none⟩ = some (.int .i64 q.p.lost) ∧ w'.cell? ⟨g, k * 12 + 9, none⟩ = some (.bool q.waits) ∧ w'.cell? ⟨g, k * 12 + 10, none⟩ = some (.string q.tx) ∧ w'.cell? ⟨g, k * 12 + 11, none⟩ = some (.int .u64 (q.at_ : Int)) ∧ w'.cell? ⟨g, m * 12, none⟩ = some (.bool qm.p.e.v6) ∧ w'.cell? ⟨g, m * 12 + 1, none⟩ = some (.int .u64 (qm.p.e.hi : Int)) ∧ w'.cell? ⟨g, m * 12 + 2, none⟩ = some (.int .u64 (qm.p.e.lo : Int)) ∧ w'.cell? ⟨g, m * 12 + 3, none⟩ = some (.int .u16 (qm.p.e.port : Int)) ∧ w'.cell? ⟨g, m * 12 + 4, none⟩ = some (.float .f64 qm.p.x) ∧ w'.cell? ⟨g, m * 12 + 5, none⟩ = some (.float .f64 qm.p.y) ∧ w'.cell? ⟨g, m * 12 + 6, none⟩ = some (.bool qm.p.heard) ∧ w'.cell? ⟨g, m * 12 + 7, none⟩ = some (.int .u64 (qm.p.last : Int)) ∧ w'.cell? ⟨g, m * 12 + 8, none⟩ = some (.int .i64 qm.p.lost) ∧ w'.cell? ⟨g, m * 12 + 9, none⟩ = some (.bool qm.waits) ∧ w'.cell? ⟨g, m * 12 + 10, none⟩ = some (.string qm.tx) ∧ w'.cell? ⟨g, m * 12 + 11, none⟩ = some (.int .u64 (qm.at_ : Int)))
              (first | exact ⟨pd, pa0, pa1, pa2, pa3, pa4, pa5, pa6, pa7, pa8, pa9, pa10, pa11, pb0, pb1, pb2, pb3, pb4, pb5, pb6, pb7, pb8, pb9, pb10, pb11⟩ | exact ⟨yd, ya0, ya1, ya2, ya3, ya4, ya5, ya6, ya7, ya8, ya9, ya10, ya11, yb0, yb1, yb2, yb3, yb4, yb5, yb6, yb7, yb8, yb9, yb10, yb11⟩ | exact ⟨zd, za0, za1, za2, za3, za4, za5, za6, za7, za8, za9, za10, za11, zb0, zb1, zb2, zb3, zb4, zb5, zb6, zb7, zb8, zb9, zb10, zb11⟩ | exact ⟨ud, ua0, ua1, ua2, ua3, ua4, ua5, ua6, ua7, ua8, ua9, ua10, ua11, ub0, ub1, ub2, ub3, ub4, ub5, ub6, ub7, ub8, ub9, ub10, ub11⟩ | go_keep)
              (first
                | (go_at_call 50; refine (HT.out _ hR.drew).mono ?_; rintro r v1 ⟨rfl, g1⟩; have hR1 := RM.below hR.drew g1; have yd := hR1.cells.2.2.2.2.1; obtain ⟨ya0, ya1, ya2, ya3, ya4, ya5, ya6, ya7, ya8, ya9, ya10, ya11⟩ := hR1.at12 Hq.out; obtain ⟨yb0, yb1, yb2, yb3, yb4, yb5, yb6, yb7, yb8, yb9, yb10, yb11⟩ := hR1.at12 Hqm.out)
                | (go_at_call 51; refine (HSq.out _).mono ?_; rintro r v2 ⟨rfl, g2⟩; have hR2 := RM.below hR1 g2; have zd := hR2.cells.2.2.2.2.1; obtain ⟨za0, za1, za2, za3, za4, za5, za6, za7, za8, za9, za10, za11⟩ := hR2.at12 Hq.out; obtain ⟨zb0, zb1, zb2, zb3, zb4, zb5, zb6, zb7, zb8, zb9, zb10, zb11⟩ := hR2.at12 Hqm.out)
                | (go_at_call 51; refine (HSm.out _).mono ?_; rintro r v3 ⟨rfl, g3⟩; have hR3 := RM.below hR2 g3; have ud := hR3.cells.2.2.2.2.1; obtain ⟨ua0, ua1, ua2, ua3, ua4, ua5, ua6, ua7, ua8, ua9, ua10, ua11⟩ := hR3.at12 Hq.out; obtain ⟨ub0, ub1, ub2, ub3, ub4, ub5, ub6, ub7, ub8, ub9, ub10, ub11⟩ := hR3.at12 Hqm.out)
              )
            have b1 : Below (w.heap.size + 1) (w.alloc (.cells #[.bool false, .int .u64 0, .int .u64 0, .int .u16 0] 35)) v3 := ((br.trans (show Below _ wr v1 from ⟨g1.os, g1.tape, g1.output, g1.size, fun i hi => g1.block i (Nat.lt_of_lt_of_le hi hbs)⟩)).trans (g2.mono (Nat.le_trans hbs g1.size))).trans (g3.mono (Nat.le_trans (Nat.le_trans hbs g1.size) g2.size))
            go_wp2_with fail
            go_roundw
            case rel => exact ⟨k + 1, by omega, by rw [Hs.out], by rw [Ek.out], b1⟩
            case measure => simp [intOf]; omega
    · obtain rfl : k = t.l.length := by omega
      have hkL : decide ((t.l.length : Int) < (t.l.length : Int)) = false := by simp
      have pu := hR.cells.2.2.2.2.2
      have hbo := rbest_lt t now t.l.length (Nat.le_refl _)
      have hbI : rbestI t now = if 0 ≤ t.used then match t.l[t.used.toNat]? with
        | none => rbest t now t.l.length
        | some qu => if rthere t qu.p now then match rget t (rbest t now t.l.length) with
            | none => rbest t now t.l.length
            | some qb => if flt (plus (sc qb.p) (eighth (sc qu.p))) (sc qu.p) then rbest t now t.l.length else some t.used.toNat
          else rbest t now t.l.length
      else rbest t now t.l.length := rfl
      have hnone : rbest t now t.l.length = none → ∀ q ∈ t.l, rthere t q.p now = false := by
        intro hno
        have key : ∀ k, k ≤ t.l.length → rbest t now k = none → ∀ i q, i < k → t.l[i]? = some q → rthere t q.p now = false := by
          intro k
          induction k with
          | zero => intro _ _ i q h; omega
          | succ k ih =>
            intro hk hn i q hi hq
            obtain ⟨qk, hqk⟩ : ∃ qk, t.l[k]? = some qk := ⟨t.l[k], List.getElem?_eq_getElem (by omega)⟩
            rw [rbest_succ hqk] at hn
            cases hb : rbest t now k with
            | none =>
              rw [hb] at hn
              have hg : rget t none = none := rfl
              simp only [hg, Bool.and_true] at hn
              rcases Nat.lt_or_ge i k with h | h
              · exact ih (by omega) hb i q h hq
              · obtain rfl : i = k := by omega
                rw [hqk] at hq
                injection hq with hq
                subst hq
                cases ht : rthere t qk.p now with
                | false => rfl
                | true => rw [ht] at hn; simp at hn
            | some m =>
              rw [hb] at hn
              generalize (rthere t qk.p now && match rget t (some m) with | none => true | some qm => flt (sc qk.p) (sc qm.p)) = c at hn
              cases c <;> simp at hn
        intro q hq
        obtain ⟨i, hi⟩ := List.getElem?_of_mem hq
        have hlt : i < t.l.length := by
          rcases Nat.lt_or_ge i t.l.length with h | h
          · exact h
          · rw [List.getElem?_eq_none h] at hi; cases hi
        exact key t.l.length (Nat.le_refl _) hno i q hlt hi
      generalize hgo : rbest t now t.l.length = o at hbo hbI hnone
      clear hgo
      have hZ0 := Blk.new w 35 #[.bool false, .int .u64 0, .int .u64 0, .int .u16 0]
      rcases hu with hu | ⟨hu0, hu1⟩
      · -- nothing is in use
        rw [hu, if_neg (by omega)] at hbI
        rw [hu] at pu
        have hg0 : decide ((0 : Int) ≤ -1) = false := by decide
        have HbI := Lib.hid hbI
        cases o with
        | none =>
          unfold oidx
          clear hbI hbo hnone
          go_wp2_with fail
          go_quiet (fail)
          have bx : Below (w.heap.size + 1) (w.alloc (.cells #[.bool false, .int .u64 0, .int .u64 0, .int .u16 0] 35)) (wr.drewN nq) := ⟨br.os, br.tape, br.output, br.size, br.block⟩
          generalize wr.drewN nq = v at bx ⊢
          have hRv : RM v b base A cap t := hm1.below (by simpa using bx)
          have hbv : w.heap.size + 1 ≤ v.heap.size := by have := bx.size; simp at this; omega
          have cv4 := hRv.cells.2.2.2.2.1
          have cv5 := hRv.cells.2.2.2.2.2
          have fv5 := hRv.blk.frozen 5
          have hZ := hZ0.below bx (by omega)
          have z0 := hZ.cell 0
          have z1 := hZ.cell 1
          have z2 := hZ.cell 2
          have z3 := hZ.cell 3
          simp at z0 z1 z2 z3
          have zf0 := hZ.frozen 0
          have zf1 := hZ.frozen 1
          have zf2 := hZ.frozen 2
          have zf3 := hZ.frozen 3
          have hne1 : b ≠ w.heap.size := by omega
          have hne2 : w.heap.size ≠ b := by omega
          have hRn := hRv.setUsed (-1)
          have kv : Keeps (fun x => x = b ∨ (Value.slice A 0 0).ownBlock = some x) w v := ((Keeps.refl _ w).alloc _).trans (Keeps.of_below bx (fun k hk _ => by simpa using hk))
          have HRn := Lib.hid hRn
          have Kv := Lib.hid kv
          have HZ := Lib.hid hZ
          clear hRv hRn kv hZ bx
          go_wp2_with fail
          have hRf := ((((HZ.out.far (p := ⟨b, 5, none⟩) hne2 (.int .i64 (-1))).set_ 0 (.bool false)).set_ 1 (.int .u64 0)).set_ 2 (.int .u64 0)).set_ 3 (.int .u16 0)
          have y0 := hRf.cell 0
          have y1 := hRf.cell 1
          have y2 := hRf.cell 2
          have y3 := hRf.cell 3
          simp only [List.setIfInBounds_toArray] at y0 y1 y2 y3
          have kk := ((((Keeps.refl (fun k => k = w.heap.size) (v.setCell ⟨b, 5, none⟩ (.int .i64 (-1)))).setCell (p := ⟨w.heap.size, 0, none⟩) (.inl rfl) (.bool false)).setCell (p := ⟨w.heap.size, 1, none⟩) (.inl rfl) (.int .u64 0)).setCell (p := ⟨w.heap.size, 2, none⟩) (.inl rfl) (.int .u64 0)).setCell (p := ⟨w.heap.size, 3, none⟩) (.inl rfl) (.int .u16 0)
          have hfin := HRn.out.keep kk (show ¬ b = w.heap.size from hne1) (fun g hg => show ¬ g = w.heap.size by have := (hm.own_lt g hg).2; omega)
          have kf := ((((Kv.out.setCell (p := ⟨b, 5, none⟩) (.inl (.inl rfl)) (.int .i64 (-1))).setCell (p := ⟨w.heap.size, 0, none⟩) (.inr (Nat.le_refl _)) (.bool false)).setCell (p := ⟨w.heap.size, 1, none⟩) (.inr (Nat.le_refl _)) (.int .u64 0)).setCell (p := ⟨w.heap.size, 2, none⟩) (.inr (Nat.le_refl _)) (.int .u64 0)).setCell (p := ⟨w.heap.size, 3, none⟩) (.inr (Nat.le_refl _)) (.int .u16 0)
          have hbe : t.best now = { t with used := (-1) } := by unfold RTab.best; rw [HbI.out]; rfl
          obtain ⟨p1, p2⟩ := hm.done kf h1 h2 h3
          refine bodyPost_ret (v := .tuple #[.agg #[.bool false, .int .u64 0, .int .u64 0, .int .u16 0], .bool false]) (by simp [results, Try.results35, go_sem, y0, y1, y2, y3]) rfl ⟨by rw [rbestE_none HbI.out]; rfl, ⟨base, A, cap, ?_, h1, h2, Nat.le_trans h3 kf.size⟩, p1, p2⟩
          rw [hbe]
          exact hfin
        | some m =>
          obtain ⟨hmk, hfound⟩ := hbo m rfl
          unfold oidx
          clear hbI hbo hnone
          go_wp2_with fail
          go_quiet (fail)
          have bx : Below (w.heap.size + 1) (w.alloc (.cells #[.bool false, .int .u64 0, .int .u64 0, .int .u16 0] 35)) (wr.drewN nq) := ⟨br.os, br.tape, br.output, br.size, br.block⟩
          generalize wr.drewN nq = v at bx ⊢
          have hRv : RM v b base A cap t := hm1.below (by simpa using bx)
          have hbv : w.heap.size + 1 ≤ v.heap.size := by have := bx.size; simp at this; omega
          have cv4 := hRv.cells.2.2.2.2.1
          have cv5 := hRv.cells.2.2.2.2.2
          have fv5 := hRv.blk.frozen 5
          have hZ := hZ0.below bx (by omega)
          have z0 := hZ.cell 0
          have z1 := hZ.cell 1
          have z2 := hZ.cell 2
          have z3 := hZ.cell 3
          simp at z0 z1 z2 z3
          have zf0 := hZ.frozen 0
          have zf1 := hZ.frozen 1
          have zf2 := hZ.frozen 2
          have zf3 := hZ.frozen 3
          have hne1 : b ≠ w.heap.size := by omega
          have hne2 : w.heap.size ≠ b := by omega
          obtain ⟨q, hq, _⟩ := hfound
          obtain ⟨g, hA, _, _, hc⟩ := hRv.row.at_ hq
          have hgne : g ≠ w.heap.size := by have := (hm.own_lt g (by rw [hA]; rfl)).2; omega
          have hgne2 : w.heap.size ≠ g := fun e => hgne e.symm
          have hgb : g ≠ b := hRv.own_sep (g := g) (by rw [hA]; rfl)
          have hgb2 : b ≠ g := fun e => hgb e.symm
          have qe0 := hc 0 (by omega)
          have qe1 := hc 1 (by omega)
          have qe2 := hc 2 (by omega)
          have qe3 := hc 3 (by omega)
          simp [RPth.cells] at qe0 qe1 qe2 qe3
          have hE := rbestE_some HbI.out hq
          have hml : m < t.l.length := by
            rcases Nat.lt_or_ge m t.l.length with h | h
            · exact h
            · rw [List.getElem?_eq_none h] at hq; cases hq
          have hm0 : (0 : Int) ≤ (m : Int) := by omega
          have HE := Lib.hid hE
          have HA := Lib.hid hA
          rw [hA] at cv4
          clear hc hq hE hA
          have hRn := hRv.setUsed (m : Int)
          have kv : Keeps (fun x => x = b ∨ (Value.slice A 0 0).ownBlock = some x) w v := ((Keeps.refl _ w).alloc _).trans (Keeps.of_below bx (fun k hk _ => by simpa using hk))
          have HRn := Lib.hid hRn
          have Kv := Lib.hid kv
          have HZ := Lib.hid hZ
          clear hRv hRn kv hZ bx
          go_wp2_with fail
          have hRf := ((((HZ.out.far (p := ⟨b, 5, none⟩) hne2 (.int .i64 (m : Int))).set_ 0 (.bool q.p.e.v6)).set_ 1 (.int .u64 (q.p.e.hi : Int))).set_ 2 (.int .u64 (q.p.e.lo : Int))).set_ 3 (.int .u16 (q.p.e.port : Int))
          have y0 := hRf.cell 0
          have y1 := hRf.cell 1
          have y2 := hRf.cell 2
          have y3 := hRf.cell 3
          simp only [List.setIfInBounds_toArray] at y0 y1 y2 y3
          have kk := ((((Keeps.refl (fun k => k = w.heap.size) (v.setCell ⟨b, 5, none⟩ (.int .i64 (m : Int)))).setCell (p := ⟨w.heap.size, 0, none⟩) (.inl rfl) (.bool q.p.e.v6)).setCell (p := ⟨w.heap.size, 1, none⟩) (.inl rfl) (.int .u64 (q.p.e.hi : Int))).setCell (p := ⟨w.heap.size, 2, none⟩) (.inl rfl) (.int .u64 (q.p.e.lo : Int))).setCell (p := ⟨w.heap.size, 3, none⟩) (.inl rfl) (.int .u16 (q.p.e.port : Int))
          have hfin := HRn.out.keep kk (show ¬ b = w.heap.size from hne1) (fun g hg => show ¬ g = w.heap.size by have := (hm.own_lt g hg).2; omega)
          have kf := ((((Kv.out.setCell (p := ⟨b, 5, none⟩) (.inl (.inl rfl)) (.int .i64 (m : Int))).setCell (p := ⟨w.heap.size, 0, none⟩) (.inr (Nat.le_refl _)) (.bool q.p.e.v6)).setCell (p := ⟨w.heap.size, 1, none⟩) (.inr (Nat.le_refl _)) (.int .u64 (q.p.e.hi : Int))).setCell (p := ⟨w.heap.size, 2, none⟩) (.inr (Nat.le_refl _)) (.int .u64 (q.p.e.lo : Int))).setCell (p := ⟨w.heap.size, 3, none⟩) (.inr (Nat.le_refl _)) (.int .u16 (q.p.e.port : Int))
          have hbe : t.best now = { t with used := (m : Int) } := by unfold RTab.best; rw [HbI.out]; rfl
          obtain ⟨p1, p2⟩ := hm.done kf h1 h2 h3
          refine bodyPost_ret (v := .tuple #[.agg #[.bool q.p.e.v6, .int .u64 (q.p.e.hi : Int), .int .u64 (q.p.e.lo : Int), .int .u16 (q.p.e.port : Int)], .bool true]) (by simp [results, Try.results35, go_sem, y0, y1, y2, y3]) rfl ⟨by rw [HE.out]; rfl, ⟨base, A, cap, ?_, h1, h2, Nat.le_trans h3 kf.size⟩, p1, p2⟩
          rw [hbe]
          exact hfin
      · obtain ⟨uu, huu⟩ : ∃ uu : Nat, t.used = (uu : Int) := ⟨t.used.toNat, by omega⟩
        rw [huu] at hu0 hu1 hbI pu
        rw [if_pos hu0, Int.toNat_natCast] at hbI
        have huL : uu < t.l.length := by omega
        obtain ⟨qu, hqu⟩ : ∃ qu, t.l[uu]? = some qu := ⟨t.l[uu], List.getElem?_eq_getElem huL⟩
        simp only [hqu] at hbI
        have hmu := List.mem_of_getElem? hqu
        have hlu := fin.last qu hmu
        obtain ⟨mmu, mu1, mu2⟩ := fin.sc qu hmu
        have hg0 : decide ((0 : Int) ≤ (uu : Int)) = true := decide_eq_true hu0
        have hth := fun (bo : Bool) (hb : rthere t qu.p now = bo) (w' : World) (h : RM w' b base A cap t) => rthere_any h qu now hn hlu bo hb
        have hsu := fun (w' : World) => rscore_any qu w' mu1 mu2
        unfold RPth.cells at hth hsu
        have HSu := Lib.hid hsu
        have Huu := Lib.hid huu
        have Hqu := Lib.hid hqu
        obtain ⟨g, rfl, _, hgl, _⟩ := hR.row.at_ hqu
        obtain ⟨pa0, pa1, pa2, pa3, pa4, pa5, pa6, pa7, pa8, pa9, pa10, pa11⟩ := hR.at12 hqu
        clear hsu huu
        cases htu : rthere t qu.p now with
        | false =>
          rw [htu] at hbI
          simp only [Bool.false_eq_true, if_false] at hbI
          have ht := hth false htu
          have HT := Lib.hid ht
          have HbI := Lib.hid hbI
          cases o with
          | none =>
            unfold oidx
            clear hbI hbo hnone hth ht htu hqu hmu mu1 mu2
            go_wp2_with fail
            go_region_held3 (fun w' => w'.cell? ⟨b, 4, none⟩ = some (.slice (some ⟨g, 0, none⟩) t.l.length cap) ∧ w'.cell? ⟨b, 5, none⟩ = some (.int .i64 (uu : Int)) ∧ w'.cell? ⟨g, uu * 12, none⟩ = some (.bool qu.p.e.v6) ∧ w'.cell? ⟨g, uu * 12 + 1, none⟩ = some (.int .u64 (qu.p.e.hi : Int)) ∧ w'.cell? ⟨g, uu * 12 + 2, none⟩ = some (.int .u64 (qu.p.e.lo : Int)) ∧ w'.cell? ⟨g, uu * 12 + 3, none⟩ = some (.int .u16 (qu.p.e.port : Int)) ∧ w'.cell? ⟨g, uu * 12 + 4, none⟩ = some (.float .f64 qu.p.x) ∧ w'.cell? ⟨g, uu * 12 + 5, none⟩ = some (.float .f64 qu.p.y) ∧ w'.cell? ⟨g, uu * 12 + 6, none⟩ = some (.bool qu.p.heard) ∧ w'.cell? ⟨g, uu * 12 + 7, none⟩ = some (.int .u64 (qu.p.last : Int)) ∧ w'.cell? ⟨g, uu * 12 + 8, none⟩ = some (.int .i64 qu.p.lost) ∧ w'.cell? ⟨g, uu * 12 + 9, none⟩ = some (.bool qu.waits) ∧ w'.cell? ⟨g, uu * 12 + 10, none⟩ = some (.string qu.tx) ∧ w'.cell? ⟨g, uu * 12 + 11, none⟩ = some (.int .u64 (qu.at_ : Int)))
              (first | exact ⟨pd, pu, pa0, pa1, pa2, pa3, pa4, pa5, pa6, pa7, pa8, pa9, pa10, pa11⟩ | exact ⟨yd, yu, ya0, ya1, ya2, ya3, ya4, ya5, ya6, ya7, ya8, ya9, ya10, ya11⟩ | exact ⟨zd, zu, za0, za1, za2, za3, za4, za5, za6, za7, za8, za9, za10, za11⟩ | exact ⟨ud, uu, ua0, ua1, ua2, ua3, ua4, ua5, ua6, ua7, ua8, ua9, ua10, ua11⟩ | go_keep)
              (first
                | (go_at_call 50; refine (HT.out _ hR.drew).mono ?_; rintro r v1 ⟨rfl, g1⟩; have hR1 := RM.below hR.drew g1; have yd := hR1.cells.2.2.2.2.1; have yu := hR1.cells.2.2.2.2.2; rw [Huu.out] at yu; obtain ⟨ya0, ya1, ya2, ya3, ya4, ya5, ya6, ya7, ya8, ya9, ya10, ya11⟩ := hR1.at12 Hqu.out)
              )
            have bx : Below (w.heap.size + 1) (w.alloc (.cells #[.bool false, .int .u64 0, .int .u64 0, .int .u16 0] 35)) (v1) := (br.trans (show Below _ wr v1 from ⟨g1.os, g1.tape, g1.output, g1.size, fun i hi => g1.block i (Nat.lt_of_lt_of_le hi hbs)⟩))
            generalize v1 = v at bx ⊢
            have hRv : RM v b base (some ⟨g, 0, none⟩) cap t := hm1.below (by simpa using bx)
            have hbv : w.heap.size + 1 ≤ v.heap.size := by have := bx.size; simp at this; omega
            have cv4 := hRv.cells.2.2.2.2.1
            have cv5 := hRv.cells.2.2.2.2.2
            rw [Huu.out] at cv5
            have fv5 := hRv.blk.frozen 5
            have hZ := hZ0.below bx (by omega)
            have z0 := hZ.cell 0
            have z1 := hZ.cell 1
            have z2 := hZ.cell 2
            have z3 := hZ.cell 3
            simp at z0 z1 z2 z3
            have zf0 := hZ.frozen 0
            have zf1 := hZ.frozen 1
            have zf2 := hZ.frozen 2
            have zf3 := hZ.frozen 3
            have hne1 : b ≠ w.heap.size := by omega
            have hne2 : w.heap.size ≠ b := by omega
            have hRn := hRv.setUsed (-1)
            have kv : Keeps (fun x => x = b ∨ (Value.slice (some ⟨g, 0, none⟩) 0 0).ownBlock = some x) w v := ((Keeps.refl _ w).alloc _).trans (Keeps.of_below bx (fun k hk _ => by simpa using hk))
            have HRn := Lib.hid hRn
            have Kv := Lib.hid kv
            have HZ := Lib.hid hZ
            clear hRv hRn kv hZ bx
            go_wp2_with fail
            have hRf := ((((HZ.out.far (p := ⟨b, 5, none⟩) hne2 (.int .i64 (-1))).set_ 0 (.bool false)).set_ 1 (.int .u64 0)).set_ 2 (.int .u64 0)).set_ 3 (.int .u16 0)
            have y0 := hRf.cell 0
            have y1 := hRf.cell 1
            have y2 := hRf.cell 2
            have y3 := hRf.cell 3
            simp only [List.setIfInBounds_toArray] at y0 y1 y2 y3
            have kk := ((((Keeps.refl (fun k => k = w.heap.size) (v.setCell ⟨b, 5, none⟩ (.int .i64 (-1)))).setCell (p := ⟨w.heap.size, 0, none⟩) (.inl rfl) (.bool false)).setCell (p := ⟨w.heap.size, 1, none⟩) (.inl rfl) (.int .u64 0)).setCell (p := ⟨w.heap.size, 2, none⟩) (.inl rfl) (.int .u64 0)).setCell (p := ⟨w.heap.size, 3, none⟩) (.inl rfl) (.int .u16 0)
            have hfin := HRn.out.keep kk (show ¬ b = w.heap.size from hne1) (fun g hg => show ¬ g = w.heap.size by have := (hm.own_lt g hg).2; omega)
            have kf := ((((Kv.out.setCell (p := ⟨b, 5, none⟩) (.inl (.inl rfl)) (.int .i64 (-1))).setCell (p := ⟨w.heap.size, 0, none⟩) (.inr (Nat.le_refl _)) (.bool false)).setCell (p := ⟨w.heap.size, 1, none⟩) (.inr (Nat.le_refl _)) (.int .u64 0)).setCell (p := ⟨w.heap.size, 2, none⟩) (.inr (Nat.le_refl _)) (.int .u64 0)).setCell (p := ⟨w.heap.size, 3, none⟩) (.inr (Nat.le_refl _)) (.int .u16 0)
            have hbe : t.best now = { t with used := (-1) } := by unfold RTab.best; rw [HbI.out]; rfl
            obtain ⟨p1, p2⟩ := hm.done kf h1 h2 h3
            refine bodyPost_ret (v := .tuple #[.agg #[.bool false, .int .u64 0, .int .u64 0, .int .u16 0], .bool false]) (by simp [results, Try.results35, go_sem, y0, y1, y2, y3]) rfl ⟨by rw [rbestE_none HbI.out]; rfl, ⟨base, (some ⟨g, 0, none⟩), cap, ?_, h1, h2, Nat.le_trans h3 kf.size⟩, p1, p2⟩
            rw [hbe]
            exact hfin
          | some m =>
            obtain ⟨hmk, hfound⟩ := hbo m rfl
            unfold oidx
            clear hbI hbo hnone hth ht htu hqu hmu mu1 mu2
            go_wp2_with fail
            go_region_held3 (fun w' => w'.cell? ⟨b, 4, none⟩ = some (.slice (some ⟨g, 0, none⟩) t.l.length cap) ∧ w'.cell? ⟨b, 5, none⟩ = some (.int .i64 (uu : Int)) ∧ w'.cell? ⟨g, uu * 12, none⟩ = some (.bool qu.p.e.v6) ∧ w'.cell? ⟨g, uu * 12 + 1, none⟩ = some (.int .u64 (qu.p.e.hi : Int)) ∧ w'.cell? ⟨g, uu * 12 + 2, none⟩ = some (.int .u64 (qu.p.e.lo : Int)) ∧ w'.cell? ⟨g, uu * 12 + 3, none⟩ = some (.int .u16 (qu.p.e.port : Int)) ∧ w'.cell? ⟨g, uu * 12 + 4, none⟩ = some (.float .f64 qu.p.x) ∧ w'.cell? ⟨g, uu * 12 + 5, none⟩ = some (.float .f64 qu.p.y) ∧ w'.cell? ⟨g, uu * 12 + 6, none⟩ = some (.bool qu.p.heard) ∧ w'.cell? ⟨g, uu * 12 + 7, none⟩ = some (.int .u64 (qu.p.last : Int)) ∧ w'.cell? ⟨g, uu * 12 + 8, none⟩ = some (.int .i64 qu.p.lost) ∧ w'.cell? ⟨g, uu * 12 + 9, none⟩ = some (.bool qu.waits) ∧ w'.cell? ⟨g, uu * 12 + 10, none⟩ = some (.string qu.tx) ∧ w'.cell? ⟨g, uu * 12 + 11, none⟩ = some (.int .u64 (qu.at_ : Int)))
              (first | exact ⟨pd, pu, pa0, pa1, pa2, pa3, pa4, pa5, pa6, pa7, pa8, pa9, pa10, pa11⟩ | exact ⟨yd, yu, ya0, ya1, ya2, ya3, ya4, ya5, ya6, ya7, ya8, ya9, ya10, ya11⟩ | exact ⟨zd, zu, za0, za1, za2, za3, za4, za5, za6, za7, za8, za9, za10, za11⟩ | exact ⟨ud, uu, ua0, ua1, ua2, ua3, ua4, ua5, ua6, ua7, ua8, ua9, ua10, ua11⟩ | go_keep)
              (first
                | (go_at_call 50; refine (HT.out _ hR.drew).mono ?_; rintro r v1 ⟨rfl, g1⟩; have hR1 := RM.below hR.drew g1; have yd := hR1.cells.2.2.2.2.1; have yu := hR1.cells.2.2.2.2.2; rw [Huu.out] at yu; obtain ⟨ya0, ya1, ya2, ya3, ya4, ya5, ya6, ya7, ya8, ya9, ya10, ya11⟩ := hR1.at12 Hqu.out)
              )
            have bx : Below (w.heap.size + 1) (w.alloc (.cells #[.bool false, .int .u64 0, .int .u64 0, .int .u16 0] 35)) (v1) := (br.trans (show Below _ wr v1 from ⟨g1.os, g1.tape, g1.output, g1.size, fun i hi => g1.block i (Nat.lt_of_lt_of_le hi hbs)⟩))
            generalize v1 = v at bx ⊢
            have hRv : RM v b base (some ⟨g, 0, none⟩) cap t := hm1.below (by simpa using bx)
            have hbv : w.heap.size + 1 ≤ v.heap.size := by have := bx.size; simp at this; omega
            have cv4 := hRv.cells.2.2.2.2.1
            have cv5 := hRv.cells.2.2.2.2.2
            rw [Huu.out] at cv5
            have fv5 := hRv.blk.frozen 5
            have hZ := hZ0.below bx (by omega)
            have z0 := hZ.cell 0
            have z1 := hZ.cell 1
            have z2 := hZ.cell 2
            have z3 := hZ.cell 3
            simp at z0 z1 z2 z3
            have zf0 := hZ.frozen 0
            have zf1 := hZ.frozen 1
            have zf2 := hZ.frozen 2
            have zf3 := hZ.frozen 3
            have hne1 : b ≠ w.heap.size := by omega
            have hne2 : w.heap.size ≠ b := by omega
            obtain ⟨q, hq, _⟩ := hfound
            obtain ⟨g', hg', _, _, hc⟩ := hRv.row.at_ hq
            obtain rfl : g = g' := by injection hg' with hg'; injection hg'
            have hA : (some ⟨g, 0, none⟩ : Option Addr) = some ⟨g, 0, none⟩ := rfl
            have hgne : g ≠ w.heap.size := by have := (hm.own_lt g (by rw [hA]; rfl)).2; omega
            have hgne2 : w.heap.size ≠ g := fun e => hgne e.symm
            have hgb : g ≠ b := hRv.own_sep (g := g) (by rw [hA]; rfl)
            have hgb2 : b ≠ g := fun e => hgb e.symm
            have qe0 := hc 0 (by omega)
            have qe1 := hc 1 (by omega)
            have qe2 := hc 2 (by omega)
            have qe3 := hc 3 (by omega)
            simp [RPth.cells] at qe0 qe1 qe2 qe3
            have hE := rbestE_some HbI.out hq
            have hml : m < t.l.length := by
              rcases Nat.lt_or_ge m t.l.length with h | h
              · exact h
              · rw [List.getElem?_eq_none h] at hq; cases hq
            have hm0 : (0 : Int) ≤ (m : Int) := by omega
            have HE := Lib.hid hE
            have HA := Lib.hid hA
            clear hc hq hE hA
            have hRn := hRv.setUsed (m : Int)
            have kv : Keeps (fun x => x = b ∨ (Value.slice (some ⟨g, 0, none⟩) 0 0).ownBlock = some x) w v := ((Keeps.refl _ w).alloc _).trans (Keeps.of_below bx (fun k hk _ => by simpa using hk))
            have HRn := Lib.hid hRn
            have Kv := Lib.hid kv
            have HZ := Lib.hid hZ
            clear hRv hRn kv hZ bx
            go_wp2_with fail
            have hRf := ((((HZ.out.far (p := ⟨b, 5, none⟩) hne2 (.int .i64 (m : Int))).set_ 0 (.bool q.p.e.v6)).set_ 1 (.int .u64 (q.p.e.hi : Int))).set_ 2 (.int .u64 (q.p.e.lo : Int))).set_ 3 (.int .u16 (q.p.e.port : Int))
            have y0 := hRf.cell 0
            have y1 := hRf.cell 1
            have y2 := hRf.cell 2
            have y3 := hRf.cell 3
            simp only [List.setIfInBounds_toArray] at y0 y1 y2 y3
            have kk := ((((Keeps.refl (fun k => k = w.heap.size) (v.setCell ⟨b, 5, none⟩ (.int .i64 (m : Int)))).setCell (p := ⟨w.heap.size, 0, none⟩) (.inl rfl) (.bool q.p.e.v6)).setCell (p := ⟨w.heap.size, 1, none⟩) (.inl rfl) (.int .u64 (q.p.e.hi : Int))).setCell (p := ⟨w.heap.size, 2, none⟩) (.inl rfl) (.int .u64 (q.p.e.lo : Int))).setCell (p := ⟨w.heap.size, 3, none⟩) (.inl rfl) (.int .u16 (q.p.e.port : Int))
            have hfin := HRn.out.keep kk (show ¬ b = w.heap.size from hne1) (fun g hg => show ¬ g = w.heap.size by have := (hm.own_lt g hg).2; omega)
            have kf := ((((Kv.out.setCell (p := ⟨b, 5, none⟩) (.inl (.inl rfl)) (.int .i64 (m : Int))).setCell (p := ⟨w.heap.size, 0, none⟩) (.inr (Nat.le_refl _)) (.bool q.p.e.v6)).setCell (p := ⟨w.heap.size, 1, none⟩) (.inr (Nat.le_refl _)) (.int .u64 (q.p.e.hi : Int))).setCell (p := ⟨w.heap.size, 2, none⟩) (.inr (Nat.le_refl _)) (.int .u64 (q.p.e.lo : Int))).setCell (p := ⟨w.heap.size, 3, none⟩) (.inr (Nat.le_refl _)) (.int .u16 (q.p.e.port : Int))
            have hbe : t.best now = { t with used := (m : Int) } := by unfold RTab.best; rw [HbI.out]; rfl
            obtain ⟨p1, p2⟩ := hm.done kf h1 h2 h3
            refine bodyPost_ret (v := .tuple #[.agg #[.bool q.p.e.v6, .int .u64 (q.p.e.hi : Int), .int .u64 (q.p.e.lo : Int), .int .u16 (q.p.e.port : Int)], .bool true]) (by simp [results, Try.results35, go_sem, y0, y1, y2, y3]) rfl ⟨by rw [HE.out]; rfl, ⟨base, (some ⟨g, 0, none⟩), cap, ?_, h1, h2, Nat.le_trans h3 kf.size⟩, p1, p2⟩
            rw [hbe]
            exact hfin
        | true =>
          have ht := hth true htu
          have HT := Lib.hid ht
          cases o with
          | none => have := hnone rfl qu hmu; rw [this] at htu; cases htu
          | some m =>
            obtain ⟨hmk, qb, hqb, hqbt⟩ := hbo m rfl
            have hg2 : rget t (some m) = some qb := hqb
            rw [htu] at hbI
            simp only [if_true, hg2] at hbI
            have hmb := List.mem_of_getElem? hqb
            obtain ⟨mmb, mb1, mb2⟩ := fin.sc qb hmb
            have hsb := fun (w' : World) => rscore_any qb w' mb1 mb2
            unfold RPth.cells at hsb
            have HSb := Lib.hid hsb
            have Hqb := Lib.hid hqb
            have hm0 : (0 : Int) ≤ (m : Int) := by omega
            have hmL : (m : Int) < (t.l.length : Int) := by omega
            have hml1 : m < t.l.length := hmk
            have r1 := fun (w : World) => run_fquo (P := Try.prog) w 46 (fin.div qu hmu)
            have r2 := fun (w : World) => run_fadd (P := Try.prog) w 46 (fin.add qu hmu qb hmb)
            have R1 := Lib.hid r1
            have R2 := Lib.hid r2
            cases hfl : flt (plus (sc qb.p) (eighth (sc qu.p))) (sc qu.p) with
            | true =>
              have hfl2 : (FloatKind.f64.format.order (plus (sc qb.p) (eighth (sc qu.p))) (sc qu.p) == some Ordering.lt) = true := hfl
              simp only [hfl, if_true] at hbI
              have HbI := Lib.hid hbI
              have hfound : ∃ q, t.l[m]? = some q ∧ rthere t q.p now = true := ⟨qb, hqb, hqbt⟩
              have Hfound := Lib.hid hfound
              have Hfl2 := Lib.hid hfl2
              unfold oidx
              clear hbI hbo hnone hth ht htu hqu hmu mu1 mu2 hqb hqbt hg2 hmb mb1 mb2 hsb r1 r2 hfl hfl2 hfound
              go_wp2_with fail
              go_region_held3 (fun w' => w'.cell? ⟨b, 4, none⟩ = some (.slice (some ⟨g, 0, none⟩) t.l.length cap) ∧ w'.cell? ⟨b, 5, none⟩ = some (.int .i64 (uu : Int)) ∧ w'.cell? ⟨g, uu * 12, none⟩ = some (.bool qu.p.e.v6) ∧ w'.cell? ⟨g, uu * 12 + 1, none⟩ = some (.int .u64 (qu.p.e.hi : Int)) ∧ w'.cell? ⟨g, uu * 12 + 2, none⟩ = some (.int .u64 (qu.p.e.lo : Int)) ∧ w'.cell? ⟨g, uu * 12 + 3, none⟩ = some (.int .u16 (qu.p.e.port : Int)) ∧ w'.cell? ⟨g, uu * 12 + 4, none⟩ = some (.float .f64 qu.p.x) ∧ w'.cell? ⟨g, uu * 12 + 5, none⟩ = some (.float .f64 qu.p.y) ∧ w'.cell? ⟨g, uu * 12 + 6, none⟩ = some (.bool qu.p.heard) ∧ w'.cell? ⟨g, uu * 12 + 7, none⟩ = some (.int .u64 (qu.p.last : Int)) ∧ w'.cell? ⟨g, uu * 12 + 8, none⟩ = some (.int .i64 qu.p.lost) ∧ w'.cell? ⟨g, uu * 12 + 9, none⟩ = some (.bool qu.waits) ∧ w'.cell? ⟨g, uu * 12 + 10, none⟩ = some (.string qu.tx) ∧ w'.cell? ⟨g, uu * 12 + 11, none⟩ = some (.int .u64 (qu.at_ : Int)))
                (first | exact ⟨pd, pu, pa0, pa1, pa2, pa3, pa4, pa5, pa6, pa7, pa8, pa9, pa10, pa11⟩ | exact ⟨yd, yu, ya0, ya1, ya2, ya3, ya4, ya5, ya6, ya7, ya8, ya9, ya10, ya11⟩ | exact ⟨zd, zu, za0, za1, za2, za3, za4, za5, za6, za7, za8, za9, za10, za11⟩ | exact ⟨ud, uu, ua0, ua1, ua2, ua3, ua4, ua5, ua6, ua7, ua8, ua9, ua10, ua11⟩ | go_keep)
                (first
                  | (go_at_call 50; refine (HT.out _ hR.drew).mono ?_; rintro r v1 ⟨rfl, g1⟩; have hR1 := RM.below hR.drew g1; have yd := hR1.cells.2.2.2.2.1; have yu := hR1.cells.2.2.2.2.2; rw [Huu.out] at yu; obtain ⟨ya0, ya1, ya2, ya3, ya4, ya5, ya6, ya7, ya8, ya9, ya10, ya11⟩ := hR1.at12 Hqu.out)
                )
              go_wp2_with fail
              go_region_held3 (fun w' => w'.cell? ⟨b, 4, none⟩ = some (.slice (some ⟨g, 0, none⟩) t.l.length cap) ∧ w'.cell? ⟨b, 5, none⟩ = some (.int .i64 (uu : Int)) ∧ w'.cell? ⟨g, uu * 12, none⟩ = some (.bool qu.p.e.v6) ∧ w'.cell? ⟨g, uu * 12 + 1, none⟩ = some (.int .u64 (qu.p.e.hi : Int)) ∧ w'.cell? ⟨g, uu * 12 + 2, none⟩ = some (.int .u64 (qu.p.e.lo : Int)) ∧ w'.cell? ⟨g, uu * 12 + 3, none⟩ = some (.int .u16 (qu.p.e.port : Int)) ∧ w'.cell? ⟨g, uu * 12 + 4, none⟩ = some (.float .f64 qu.p.x) ∧ w'.cell? ⟨g, uu * 12 + 5, none⟩ = some (.float .f64 qu.p.y) ∧ w'.cell? ⟨g, uu * 12 + 6, none⟩ = some (.bool qu.p.heard) ∧ w'.cell? ⟨g, uu * 12 + 7, none⟩ = some (.int .u64 (qu.p.last : Int)) ∧ w'.cell? ⟨g, uu * 12 + 8, none⟩ = some (.int .i64 qu.p.lost) ∧ w'.cell? ⟨g, uu * 12 + 9, none⟩ = some (.bool qu.waits) ∧ w'.cell? ⟨g, uu * 12 + 10, none⟩ = some (.string qu.tx) ∧ w'.cell? ⟨g, uu * 12 + 11, none⟩ = some (.int .u64 (qu.at_ : Int)))
                (first | exact ⟨pd, pu, pa0, pa1, pa2, pa3, pa4, pa5, pa6, pa7, pa8, pa9, pa10, pa11⟩ | exact ⟨yd, yu, ya0, ya1, ya2, ya3, ya4, ya5, ya6, ya7, ya8, ya9, ya10, ya11⟩ | exact ⟨zd, zu, za0, za1, za2, za3, za4, za5, za6, za7, za8, za9, za10, za11⟩ | exact ⟨ud, uu, ua0, ua1, ua2, ua3, ua4, ua5, ua6, ua7, ua8, ua9, ua10, ua11⟩ | go_keep)
                (first
                  | (go_at_call 51; refine (HSu.out _).mono ?_; rintro r v2 ⟨rfl, g2⟩; have hR2 := RM.below hR1.drew g2; have zd := hR2.cells.2.2.2.2.1; have zu := hR2.cells.2.2.2.2.2; rw [Huu.out] at zu; obtain ⟨za0, za1, za2, za3, za4, za5, za6, za7, za8, za9, za10, za11⟩ := hR2.at12 Hqu.out)
                )
              obtain ⟨qb0, qb1, qb2, qb3, qb4, qb5, qb6, qb7, qb8, qb9, qb10, qb11⟩ := hR2.at12 Hqb.out
              go_wp2_with fail
              go_at_call 51
              refine (HSb.out _).mono ?_
              rintro r v3 ⟨rfl, g3⟩
              have hfound := Hfound.out
              have bx : Below (w.heap.size + 1) (w.alloc (.cells #[.bool false, .int .u64 0, .int .u64 0, .int .u16 0] 35)) (v3) := (((br.trans (show Below _ wr v1 from ⟨g1.os, g1.tape, g1.output, g1.size, fun i hi => g1.block i (Nat.lt_of_lt_of_le hi hbs)⟩)).trans (show Below _ v1 v2 from ⟨g2.os, g2.tape, g2.output, g2.size, fun i hi => g2.block i (Nat.lt_of_lt_of_le hi (Nat.le_trans hbs g1.size))⟩)).trans (g3.mono (Nat.le_trans (Nat.le_trans hbs g1.size) g2.size)))
              generalize v3 = v at bx ⊢
              have hRv : RM v b base (some ⟨g, 0, none⟩) cap t := hm1.below (by simpa using bx)
              have hbv : w.heap.size + 1 ≤ v.heap.size := by have := bx.size; simp at this; omega
              have cv4 := hRv.cells.2.2.2.2.1
              have cv5 := hRv.cells.2.2.2.2.2
              rw [Huu.out] at cv5
              have fv5 := hRv.blk.frozen 5
              have hZ := hZ0.below bx (by omega)
              have z0 := hZ.cell 0
              have z1 := hZ.cell 1
              have z2 := hZ.cell 2
              have z3 := hZ.cell 3
              simp at z0 z1 z2 z3
              have zf0 := hZ.frozen 0
              have zf1 := hZ.frozen 1
              have zf2 := hZ.frozen 2
              have zf3 := hZ.frozen 3
              have hne1 : b ≠ w.heap.size := by omega
              have hne2 : w.heap.size ≠ b := by omega
              obtain ⟨q, hq, _⟩ := hfound
              obtain ⟨g', hg', _, _, hc⟩ := hRv.row.at_ hq
              obtain rfl : g = g' := by injection hg' with hg'; injection hg'
              have hA : (some ⟨g, 0, none⟩ : Option Addr) = some ⟨g, 0, none⟩ := rfl
              have hgne : g ≠ w.heap.size := by have := (hm.own_lt g (by rw [hA]; rfl)).2; omega
              have hgne2 : w.heap.size ≠ g := fun e => hgne e.symm
              have hgb : g ≠ b := hRv.own_sep (g := g) (by rw [hA]; rfl)
              have hgb2 : b ≠ g := fun e => hgb e.symm
              have qe0 := hc 0 (by omega)
              have qe1 := hc 1 (by omega)
              have qe2 := hc 2 (by omega)
              have qe3 := hc 3 (by omega)
              simp [RPth.cells] at qe0 qe1 qe2 qe3
              have hE := rbestE_some HbI.out hq
              have hml : m < t.l.length := by
                rcases Nat.lt_or_ge m t.l.length with h | h
                · exact h
                · rw [List.getElem?_eq_none h] at hq; cases hq
              have hm0 : (0 : Int) ≤ (m : Int) := by omega
              have HE := Lib.hid hE
              have HA := Lib.hid hA
              clear hc hq hE hA
              have hRn := hRv.setUsed (m : Int)
              have kv : Keeps (fun x => x = b ∨ (Value.slice (some ⟨g, 0, none⟩) 0 0).ownBlock = some x) w v := ((Keeps.refl _ w).alloc _).trans (Keeps.of_below bx (fun k hk _ => by simpa using hk))
              have HRn := Lib.hid hRn
              have Kv := Lib.hid kv
              have HZ := Lib.hid hZ
              clear hRv hRn kv hZ bx
              have r1 := R1.out
              have r2 := R2.out
              have hfl2 := Hfl2.out
              go_wp2_with fail
              have hRf := ((((HZ.out.far (p := ⟨b, 5, none⟩) hne2 (.int .i64 (m : Int))).set_ 0 (.bool q.p.e.v6)).set_ 1 (.int .u64 (q.p.e.hi : Int))).set_ 2 (.int .u64 (q.p.e.lo : Int))).set_ 3 (.int .u16 (q.p.e.port : Int))
              have y0 := hRf.cell 0
              have y1 := hRf.cell 1
              have y2 := hRf.cell 2
              have y3 := hRf.cell 3
              simp only [List.setIfInBounds_toArray] at y0 y1 y2 y3
              have kk := ((((Keeps.refl (fun k => k = w.heap.size) (v.setCell ⟨b, 5, none⟩ (.int .i64 (m : Int)))).setCell (p := ⟨w.heap.size, 0, none⟩) (.inl rfl) (.bool q.p.e.v6)).setCell (p := ⟨w.heap.size, 1, none⟩) (.inl rfl) (.int .u64 (q.p.e.hi : Int))).setCell (p := ⟨w.heap.size, 2, none⟩) (.inl rfl) (.int .u64 (q.p.e.lo : Int))).setCell (p := ⟨w.heap.size, 3, none⟩) (.inl rfl) (.int .u16 (q.p.e.port : Int))
              have hfin := HRn.out.keep kk (show ¬ b = w.heap.size from hne1) (fun g hg => show ¬ g = w.heap.size by have := (hm.own_lt g hg).2; omega)
              have kf := ((((Kv.out.setCell (p := ⟨b, 5, none⟩) (.inl (.inl rfl)) (.int .i64 (m : Int))).setCell (p := ⟨w.heap.size, 0, none⟩) (.inr (Nat.le_refl _)) (.bool q.p.e.v6)).setCell (p := ⟨w.heap.size, 1, none⟩) (.inr (Nat.le_refl _)) (.int .u64 (q.p.e.hi : Int))).setCell (p := ⟨w.heap.size, 2, none⟩) (.inr (Nat.le_refl _)) (.int .u64 (q.p.e.lo : Int))).setCell (p := ⟨w.heap.size, 3, none⟩) (.inr (Nat.le_refl _)) (.int .u16 (q.p.e.port : Int))
              have hbe : t.best now = { t with used := (m : Int) } := by unfold RTab.best; rw [HbI.out]; rfl
              obtain ⟨p1, p2⟩ := hm.done kf h1 h2 h3
              refine bodyPost_ret (v := .tuple #[.agg #[.bool q.p.e.v6, .int .u64 (q.p.e.hi : Int), .int .u64 (q.p.e.lo : Int), .int .u16 (q.p.e.port : Int)], .bool true]) (by simp [results, Try.results35, go_sem, y0, y1, y2, y3]) rfl ⟨by rw [HE.out]; rfl, ⟨base, (some ⟨g, 0, none⟩), cap, ?_, h1, h2, Nat.le_trans h3 kf.size⟩, p1, p2⟩
              rw [hbe]
              exact hfin
            | false =>
              have hfl2 : (FloatKind.f64.format.order (plus (sc qb.p) (eighth (sc qu.p))) (sc qu.p) == some Ordering.lt) = false := hfl
              simp only [hfl, Bool.false_eq_true, if_false] at hbI
              have HbI := Lib.hid hbI
              have hfound : ∃ q, t.l[uu]? = some q ∧ rthere t q.p now = true := ⟨qu, hqu, htu⟩
              have Hfound := Lib.hid hfound
              have Hfl2 := Lib.hid hfl2
              unfold oidx
              clear hbI hbo hnone hth ht htu hqu hmu mu1 mu2 hqb hqbt hg2 hmb mb1 mb2 hsb r1 r2 hfl hfl2 hfound
              go_wp2_with fail
              go_region_held3 (fun w' => w'.cell? ⟨b, 4, none⟩ = some (.slice (some ⟨g, 0, none⟩) t.l.length cap) ∧ w'.cell? ⟨b, 5, none⟩ = some (.int .i64 (uu : Int)) ∧ w'.cell? ⟨g, uu * 12, none⟩ = some (.bool qu.p.e.v6) ∧ w'.cell? ⟨g, uu * 12 + 1, none⟩ = some (.int .u64 (qu.p.e.hi : Int)) ∧ w'.cell? ⟨g, uu * 12 + 2, none⟩ = some (.int .u64 (qu.p.e.lo : Int)) ∧ w'.cell? ⟨g, uu * 12 + 3, none⟩ = some (.int .u16 (qu.p.e.port : Int)) ∧ w'.cell? ⟨g, uu * 12 + 4, none⟩ = some (.float .f64 qu.p.x) ∧ w'.cell? ⟨g, uu * 12 + 5, none⟩ = some (.float .f64 qu.p.y) ∧ w'.cell? ⟨g, uu * 12 + 6, none⟩ = some (.bool qu.p.heard) ∧ w'.cell? ⟨g, uu * 12 + 7, none⟩ = some (.int .u64 (qu.p.last : Int)) ∧ w'.cell? ⟨g, uu * 12 + 8, none⟩ = some (.int .i64 qu.p.lost) ∧ w'.cell? ⟨g, uu * 12 + 9, none⟩ = some (.bool qu.waits) ∧ w'.cell? ⟨g, uu * 12 + 10, none⟩ = some (.string qu.tx) ∧ w'.cell? ⟨g, uu * 12 + 11, none⟩ = some (.int .u64 (qu.at_ : Int)))
                (first | exact ⟨pd, pu, pa0, pa1, pa2, pa3, pa4, pa5, pa6, pa7, pa8, pa9, pa10, pa11⟩ | exact ⟨yd, yu, ya0, ya1, ya2, ya3, ya4, ya5, ya6, ya7, ya8, ya9, ya10, ya11⟩ | exact ⟨zd, zu, za0, za1, za2, za3, za4, za5, za6, za7, za8, za9, za10, za11⟩ | exact ⟨ud, uu, ua0, ua1, ua2, ua3, ua4, ua5, ua6, ua7, ua8, ua9, ua10, ua11⟩ | go_keep)
                (first
                  | (go_at_call 50; refine (HT.out _ hR.drew).mono ?_; rintro r v1 ⟨rfl, g1⟩; have hR1 := RM.below hR.drew g1; have yd := hR1.cells.2.2.2.2.1; have yu := hR1.cells.2.2.2.2.2; rw [Huu.out] at yu; obtain ⟨ya0, ya1, ya2, ya3, ya4, ya5, ya6, ya7, ya8, ya9, ya10, ya11⟩ := hR1.at12 Hqu.out)
                )
              go_wp2_with fail
              go_region_held3 (fun w' => w'.cell? ⟨b, 4, none⟩ = some (.slice (some ⟨g, 0, none⟩) t.l.length cap) ∧ w'.cell? ⟨b, 5, none⟩ = some (.int .i64 (uu : Int)) ∧ w'.cell? ⟨g, uu * 12, none⟩ = some (.bool qu.p.e.v6) ∧ w'.cell? ⟨g, uu * 12 + 1, none⟩ = some (.int .u64 (qu.p.e.hi : Int)) ∧ w'.cell? ⟨g, uu * 12 + 2, none⟩ = some (.int .u64 (qu.p.e.lo : Int)) ∧ w'.cell? ⟨g, uu * 12 + 3, none⟩ = some (.int .u16 (qu.p.e.port : Int)) ∧ w'.cell? ⟨g, uu * 12 + 4, none⟩ = some (.float .f64 qu.p.x) ∧ w'.cell? ⟨g, uu * 12 + 5, none⟩ = some (.float .f64 qu.p.y) ∧ w'.cell? ⟨g, uu * 12 + 6, none⟩ = some (.bool qu.p.heard) ∧ w'.cell? ⟨g, uu * 12 + 7, none⟩ = some (.int .u64 (qu.p.last : Int)) ∧ w'.cell? ⟨g, uu * 12 + 8, none⟩ = some (.int .i64 qu.p.lost) ∧ w'.cell? ⟨g, uu * 12 + 9, none⟩ = some (.bool qu.waits) ∧ w'.cell? ⟨g, uu * 12 + 10, none⟩ = some (.string qu.tx) ∧ w'.cell? ⟨g, uu * 12 + 11, none⟩ = some (.int .u64 (qu.at_ : Int)))
                (first | exact ⟨pd, pu, pa0, pa1, pa2, pa3, pa4, pa5, pa6, pa7, pa8, pa9, pa10, pa11⟩ | exact ⟨yd, yu, ya0, ya1, ya2, ya3, ya4, ya5, ya6, ya7, ya8, ya9, ya10, ya11⟩ | exact ⟨zd, zu, za0, za1, za2, za3, za4, za5, za6, za7, za8, za9, za10, za11⟩ | exact ⟨ud, uu, ua0, ua1, ua2, ua3, ua4, ua5, ua6, ua7, ua8, ua9, ua10, ua11⟩ | go_keep)
                (first
                  | (go_at_call 51; refine (HSu.out _).mono ?_; rintro r v2 ⟨rfl, g2⟩; have hR2 := RM.below hR1.drew g2; have zd := hR2.cells.2.2.2.2.1; have zu := hR2.cells.2.2.2.2.2; rw [Huu.out] at zu; obtain ⟨za0, za1, za2, za3, za4, za5, za6, za7, za8, za9, za10, za11⟩ := hR2.at12 Hqu.out)
                )
              obtain ⟨qb0, qb1, qb2, qb3, qb4, qb5, qb6, qb7, qb8, qb9, qb10, qb11⟩ := hR2.at12 Hqb.out
              go_wp2_with fail
              go_at_call 51
              refine (HSb.out _).mono ?_
              rintro r v3 ⟨rfl, g3⟩
              have hfound := Hfound.out
              have bx : Below (w.heap.size + 1) (w.alloc (.cells #[.bool false, .int .u64 0, .int .u64 0, .int .u16 0] 35)) (v3) := (((br.trans (show Below _ wr v1 from ⟨g1.os, g1.tape, g1.output, g1.size, fun i hi => g1.block i (Nat.lt_of_lt_of_le hi hbs)⟩)).trans (show Below _ v1 v2 from ⟨g2.os, g2.tape, g2.output, g2.size, fun i hi => g2.block i (Nat.lt_of_lt_of_le hi (Nat.le_trans hbs g1.size))⟩)).trans (g3.mono (Nat.le_trans (Nat.le_trans hbs g1.size) g2.size)))
              generalize v3 = v at bx ⊢
              have hRv : RM v b base (some ⟨g, 0, none⟩) cap t := hm1.below (by simpa using bx)
              have hbv : w.heap.size + 1 ≤ v.heap.size := by have := bx.size; simp at this; omega
              have cv4 := hRv.cells.2.2.2.2.1
              have cv5 := hRv.cells.2.2.2.2.2
              rw [Huu.out] at cv5
              have fv5 := hRv.blk.frozen 5
              have hZ := hZ0.below bx (by omega)
              have z0 := hZ.cell 0
              have z1 := hZ.cell 1
              have z2 := hZ.cell 2
              have z3 := hZ.cell 3
              simp at z0 z1 z2 z3
              have zf0 := hZ.frozen 0
              have zf1 := hZ.frozen 1
              have zf2 := hZ.frozen 2
              have zf3 := hZ.frozen 3
              have hne1 : b ≠ w.heap.size := by omega
              have hne2 : w.heap.size ≠ b := by omega
              obtain ⟨q, hq, _⟩ := hfound
              obtain ⟨g', hg', _, _, hc⟩ := hRv.row.at_ hq
              obtain rfl : g = g' := by injection hg' with hg'; injection hg'
              have hA : (some ⟨g, 0, none⟩ : Option Addr) = some ⟨g, 0, none⟩ := rfl
              have hgne : g ≠ w.heap.size := by have := (hm.own_lt g (by rw [hA]; rfl)).2; omega
              have hgne2 : w.heap.size ≠ g := fun e => hgne e.symm
              have hgb : g ≠ b := hRv.own_sep (g := g) (by rw [hA]; rfl)
              have hgb2 : b ≠ g := fun e => hgb e.symm
              have qe0 := hc 0 (by omega)
              have qe1 := hc 1 (by omega)
              have qe2 := hc 2 (by omega)
              have qe3 := hc 3 (by omega)
              simp [RPth.cells] at qe0 qe1 qe2 qe3
              have hE := rbestE_some HbI.out hq
              have hml : uu < t.l.length := by
                rcases Nat.lt_or_ge uu t.l.length with h | h
                · exact h
                · rw [List.getElem?_eq_none h] at hq; cases hq
              have hm0 : (0 : Int) ≤ (uu : Int) := by omega
              have HE := Lib.hid hE
              have HA := Lib.hid hA
              clear hc hq hE hA
              have hRn := hRv.setUsed (uu : Int)
              have kv : Keeps (fun x => x = b ∨ (Value.slice (some ⟨g, 0, none⟩) 0 0).ownBlock = some x) w v := ((Keeps.refl _ w).alloc _).trans (Keeps.of_below bx (fun k hk _ => by simpa using hk))
              have HRn := Lib.hid hRn
              have Kv := Lib.hid kv
              have HZ := Lib.hid hZ
              clear hRv hRn kv hZ bx
              have r1 := R1.out
              have r2 := R2.out
              have hfl2 := Hfl2.out
              go_wp2_with fail
              have hRf := ((((HZ.out.far (p := ⟨b, 5, none⟩) hne2 (.int .i64 (uu : Int))).set_ 0 (.bool q.p.e.v6)).set_ 1 (.int .u64 (q.p.e.hi : Int))).set_ 2 (.int .u64 (q.p.e.lo : Int))).set_ 3 (.int .u16 (q.p.e.port : Int))
              have y0 := hRf.cell 0
              have y1 := hRf.cell 1
              have y2 := hRf.cell 2
              have y3 := hRf.cell 3
              simp only [List.setIfInBounds_toArray] at y0 y1 y2 y3
              have kk := ((((Keeps.refl (fun k => k = w.heap.size) (v.setCell ⟨b, 5, none⟩ (.int .i64 (uu : Int)))).setCell (p := ⟨w.heap.size, 0, none⟩) (.inl rfl) (.bool q.p.e.v6)).setCell (p := ⟨w.heap.size, 1, none⟩) (.inl rfl) (.int .u64 (q.p.e.hi : Int))).setCell (p := ⟨w.heap.size, 2, none⟩) (.inl rfl) (.int .u64 (q.p.e.lo : Int))).setCell (p := ⟨w.heap.size, 3, none⟩) (.inl rfl) (.int .u16 (q.p.e.port : Int))
              have hfin := HRn.out.keep kk (show ¬ b = w.heap.size from hne1) (fun g hg => show ¬ g = w.heap.size by have := (hm.own_lt g hg).2; omega)
              have kf := ((((Kv.out.setCell (p := ⟨b, 5, none⟩) (.inl (.inl rfl)) (.int .i64 (uu : Int))).setCell (p := ⟨w.heap.size, 0, none⟩) (.inr (Nat.le_refl _)) (.bool q.p.e.v6)).setCell (p := ⟨w.heap.size, 1, none⟩) (.inr (Nat.le_refl _)) (.int .u64 (q.p.e.hi : Int))).setCell (p := ⟨w.heap.size, 2, none⟩) (.inr (Nat.le_refl _)) (.int .u64 (q.p.e.lo : Int))).setCell (p := ⟨w.heap.size, 3, none⟩) (.inr (Nat.le_refl _)) (.int .u16 (q.p.e.port : Int))
              have hbe : t.best now = { t with used := (uu : Int) } := by unfold RTab.best; rw [HbI.out]; rfl
              obtain ⟨p1, p2⟩ := hm.done kf h1 h2 h3
              refine bodyPost_ret (v := .tuple #[.agg #[.bool q.p.e.v6, .int .u64 (q.p.e.hi : Int), .int .u64 (q.p.e.lo : Int), .int .u16 (q.p.e.port : Int)], .bool true]) (by simp [results, Try.results35, go_sem, y0, y1, y2, y3]) rfl ⟨by rw [HE.out]; rfl, ⟨base, (some ⟨g, 0, none⟩), cap, ?_, h1, h2, Nat.le_trans h3 kf.size⟩, p1, p2⟩
              rw [hbe]
              exact hfin
end
end Go.Proofs.Ytbopmcdmahabbaa
