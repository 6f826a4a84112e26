/- Joined out of: PlS PlT PlU. -/
import Derived.Test.YtbiglifngfgffaaGreatDoorLaa
import Derived.Test.YtbiglifngfgffaaGreatDoorLaq
import Derived.Recover
set_option linter.unusedVariables false
set_option linter.unusedSimpArgs false

/- One line of a policy, by its first word: the walks. -/
namespace Go.Proofs.YtbiglifngfgffaaGreatDoor
open Go.RowKit
attribute [local go_sem ↓] Go.wp_at_zero Go.wp_at_succ

/- What a line's reading may turn. -/
def TyS (w : World) (T : List TypeId) (k : Nat) : Prop := ∃ cur e fz, w.heap[k]? = some (.cells cur e fz) ∧ e ∈ T
def LT : List TypeId := [81, 26, 46, 53, 57, 91]
def LKeeps (base : Nat) (w w' : World) : Prop := Keeps (fun k => base ≤ k ∧ TyS w LT k) w w'
theorem LKeeps.of {S : Nat → Prop} {base : Nat} {w w' : World} {T : List TypeId} (hk : Keeps S w w') (hS : ∀ k, S k → base ≤ k) (ho : Off S w T) (hT : ∀ e ∈ T, e ∈ LT) : LKeeps base w w' :=
  hk.mono fun k _ hs => ⟨hS k hs, by obtain ⟨cur, e, fz, h1, h2⟩ := ho k hs; exact ⟨cur, e, fz, h1, hT e h2⟩⟩
theorem LKeeps.off {base : Nat} {w : World} : Off (fun k => base ≤ k ∧ TyS w LT k) w LT := fun _ hk => hk.2
theorem LKeeps.below {base : Nat} {w w' : World} (h : LKeeps base w w') (hb : base ≤ w.heap.size) : Below base w w' := Keeps.below h (fun _ hk => hk.1) hb
/- The policy as far as it is read. -/
structure Pm (base : Nat) (w : World) (P : Nat) (uv : Value) (V : PoV) (bag : Bag) : Prop where
  blk : Blk w P 26 #[V.g, V.t, V.h, V.a]
  g : NmRow w base V.g bag.p.groups
  t : NmRow w base V.t bag.p.tags
  h : w.ownsRow base 53 5 V.h bag.p.hosts.length (hsCells bag.p.hosts)
  a : AcRow w base V.a bag.p.acls
  u : UsRow w base uv bag.used
  sep : ∀ x, V.g.ownBlock = some x → V.t.ownBlock = some x → False
  gl : bag.p.groups.length ≤ 64
  tl : bag.p.tags.length ≤ 64
  hl : bag.p.hosts.length ≤ 64
  al : bag.p.acls.length ≤ 64
  ul : bag.used.length ≤ 128 * bag.p.acls.length
theorem below_drew (w : World) : Below w.heap.size w w.drew := ⟨rfl, rfl, rfl, Nat.le_refl _, fun _ _ => rfl⟩
theorem Pm.drew {base P : Nat} {w : World} {uv : Value} {V : PoV} {bag : Bag} (h : Pm base w P uv V bag) : Pm base w.drew P uv V bag := ⟨h.blk, h.g, h.t, h.h, h.a.below (below_drew w), h.u, h.sep, h.gl, h.tl, h.hl, h.al, h.ul⟩
theorem Rs.drew {w : World} {b P k n : Nat} {lv uv : Value} {ws : List ByteArray} (h : Rs w b P k n lv uv ws) : Rs w.drew b P k n lv uv ws := ⟨h.blk, h.row, h.ne, h.len, h.sizes⟩
theorem Env.drew {w : World} (h : Env w) : Env w.drew := h.below (below_drew w)
theorem LKeeps.of_drew {base : Nat} {w w' : World} (h : LKeeps base w.drew w') : LKeeps base w w' := ⟨h.os, h.tape, h.output, h.size, h.block⟩
def LineOk (base : Nat) (b P n : Nat) (lv : Value) (ws : List ByteArray) (w' : World) (bag' : Bag) (r : Ending) : Prop :=
  r = .returned (.tuple #[]) ∧ ∃ k' uv' V', Rs w' b P k' n lv uv' ws ∧ Pm base w' P uv' V' bag'
theorem LineR.map {α β : Type} {o : Except Bad α} {f : α → β} {n : Nat} {ok : β → Ending → Prop} {r : Ending} (h : LineR o n (fun x r => ok (f x) r) r) : LineR (o.map f) n ok r := by
  cases o with
  | error e => exact h
  | ok x => exact h
def ErrP {α : Type} (w' : World) (P : Nat) (o : Except Bad α) : Prop := ∀ e, o = .error e → ∃ p0 p1 p2 p3, Blk w' P 26 #[p0, p1, p2, p3]
theorem ErrP.map {α β : Type} {o : Except Bad α} {f : α → β} {w' : World} {P : Nat} (h : ErrP w' P o) : ErrP w' P (o.map f) := by
  intro e he
  cases o with
  | error e' => exact h e' rfl
  | ok x => cases he
theorem LineR.mono {α : Type} {o : Except Bad α} {n : Nat} {ok ok' : α → Ending → Prop} {r : Ending} (h : LineR o n ok r) (hm : ∀ x, o = .ok x → ok x r → ok' x r) : LineR o n ok' r := by
  cases o with
  | error e => exact h
  | ok x => exact hm x rfl h
theorem first_cons {ws : List ByteArray} {x : ByteArray} (h : ws[0]? = some x) : ∃ r, ws = x :: r := by
  cases ws with
  | nil => cases h
  | cons y r => injection h with h; exact ⟨r, by rw [h]⟩
theorem line_group {ws : List ByteArray} (bag : Bag) (n : Nat) (h : ws[0]? = some W_group) : lineP bag n ws = (namedP ws bag.p.groups).map fun x => { bag with p := { bag.p with groups := bag.p.groups ++ [x] } } := by
  obtain ⟨r, rfl⟩ := first_cons h
  unfold lineP
  dsimp only
  rw [if_pos rfl]
theorem line_tag {ws : List ByteArray} (bag : Bag) (n : Nat) (h : ws[0]? = some W_tag) : lineP bag n ws = (namedP ws bag.p.tags).map fun x => { bag with p := { bag.p with tags := bag.p.tags ++ [x] } } := by
  obtain ⟨r, rfl⟩ := first_cons h
  unfold lineP
  dsimp only
  rw [if_neg (by decide +kernel), if_pos rfl]
theorem line_host {ws : List ByteArray} (bag : Bag) (n : Nat) (h : ws[0]? = some W_host) : lineP bag n ws = (hostP ws bag.p.hosts).map fun x => { bag with p := { bag.p with hosts := bag.p.hosts ++ [x] } } := by
  obtain ⟨r, rfl⟩ := first_cons h
  unfold lineP
  dsimp only
  rw [if_neg (by decide +kernel), if_neg (by decide +kernel), if_pos rfl]
theorem line_accept {ws : List ByteArray} (bag : Bag) (n : Nat) (h : ws[0]? = some W_accept) : lineP bag n ws = (acceptP ws bag.p.acls.length).map fun x => { p := { bag.p with acls := bag.p.acls ++ [x.1] }, used := bag.used ++ x.2.map fun y => (y.1, n, y.2) } := by
  obtain ⟨r, rfl⟩ := first_cons h
  unfold lineP
  dsimp only
  rw [if_neg (by decide +kernel), if_neg (by decide +kernel), if_neg (by decide +kernel), if_pos rfl]
theorem line_none {ws : List ByteArray} {x : ByteArray} (bag : Bag) (n : Nat) (h : ws[0]? = some x) (h1 : x ≠ W_group) (h2 : x ≠ W_tag) (h3 : x ≠ W_host) (h4 : x ≠ W_accept) : lineP bag n ws = .error (190, 0) := by
  obtain ⟨r, rfl⟩ := first_cons h
  unfold lineP
  dsimp only
  rw [if_neg h1, if_neg h2, if_neg h3, if_neg h4]
theorem own_at {w : World} {base size n : Nat} {e : TypeId} {v : Value} {xs : List Value} {g : Nat} (h : w.ownsRow base e size v n xs) (hg : v.ownBlock = some g) : base ≤ g ∧ g < w.heap.size ∧ ∃ cur fz, w.heap[g]? = some (.cells cur e fz) := by
  obtain ⟨cur, e2, fz, h1, h2⟩ := ownOff h g hg
  rw [List.mem_singleton.1 h2] at h1
  exact ⟨(h.lt g hg).1, (h.lt g hg).2, cur, fz, h1⟩
theorem NmRow.own {w : World} {base : Nat} {v : Value} {l : List Nm} (h : NmRow w base v l) {g : Nat} (hg : v.ownBlock = some g) : base ≤ g ∧ g < w.heap.size ∧ ∃ cur fz, w.heap[g]? = some (.cells cur 46 fz) := by
  obtain ⟨xs, _, ho, _⟩ := h
  exact own_at ho hg
theorem AcRow.own {w : World} {base : Nat} {v : Value} {l : List Ac} (h : AcRow w base v l) {g : Nat} (hg : v.ownBlock = some g) : base ≤ g ∧ g < w.heap.size ∧ ∃ cur fz, w.heap[g]? = some (.cells cur 57 fz) := by
  obtain ⟨xs, _, ho, _⟩ := h
  exact own_at ho hg
theorem UsRow.own {w : World} {base : Nat} {v : Value} {l : List Us} (h : UsRow w base v l) {g : Nat} (hg : v.ownBlock = some g) : base ≤ g ∧ g < w.heap.size ∧ ∃ cur fz, w.heap[g]? = some (.cells cur 91 fz) := by
  obtain ⟨xs, _, ho⟩ := h
  exact own_at ho hg

theorem heap_ne {w : World} {g b : Nat} {cur cs : Array Value} {e t : TypeId} {fz : Nat × Nat} (h : w.heap[g]? = some (.cells cur e fz)) (hb : Blk w b t cs) (hne : e ≠ t) : g ≠ b := by
  rintro rfl
  unfold Blk at hb
  rw [h] at hb
  injection hb with hb
  injection hb with _ h2 _
  exact hne h2

theorem named_group {w0 w : World} {b P n : Nat} {lv uv : Value} {ws : List ByteArray} {V : PoV} {bag : Bag} (hE : Below w0.heap.size w0 w) (hbb : w0.heap.size ≤ b) (hPP : w0.heap.size ≤ P) (h : Rs w b P 1 n lv uv ws) (m : Pm w0.heap.size w P uv V bag) (hw : ws[0]? = some W_group) :
    Calls Tryz.prog 57 #[.pointer (some ⟨b, 0, none⟩), .pointer (some ⟨P, 0, none⟩)] w fun r w' => LKeeps w0.heap.size w w' ∧ LineR (lineP bag n ws) n (LineOk w0.heap.size b P n lv ws w') r ∧ ErrP w' P (lineP bag n ws) := by
  rw [line_group bag n hw]
  have of : Off (fun k => k = b ∨ k = P ∨ V.g.ownBlock = some k) w [81, 26, 46] := by
    rintro k (e | e | e)
    · exact ⟨_, _, _, by subst e; exact h.blk, by simp⟩
    · exact ⟨_, _, _, by subst e; exact m.blk, by simp⟩
    · obtain ⟨_, _, cur, fz, h1⟩ := m.g.own e
      exact ⟨cur, _, fz, h1, by simp⟩
  have hPb : P ≠ b := m.blk.ne_ h.blk (by decide)
  refine (named_any (q := 0) h m.blk rfl m.g hE.size).mono fun r w' hh => have hk := (hh.line (fun k hk => Or.inl hk)).1; have hl := (hh.line (fun k hk => Or.inl hk)).2; ⟨LKeeps.of hk ?_ of (by decide), LineR.map (hl.mono fun x hx ⟨h1, k', lst', R, B, NR, fr⟩ => ⟨h1, k', uv, ⟨lst', V.t, V.h, V.a⟩, R, ⟨B, NR, ?_, own_off m.h hk of (by decide), m.a.off hk of (by decide) (by decide) (by decide) (by decide), m.u.off hk of (by decide), ?_, ?_, m.tl, m.hl, m.al, m.ul⟩⟩), ErrP.map fun e he => ⟨_, _, _, _, m.blk.keep (hh.err e he) (hPb)⟩⟩
  · rintro k (e | e | e)
    · omega
    · omega
    · exact (m.g.own e).1
  · refine m.t.keep hk of (by decide) ?_
    rintro g hg (e | e | e)
    · obtain ⟨_, _, cur, fz, h1⟩ := m.t.own hg
      exact heap_ne h1 h.blk (by decide) e
    · obtain ⟨_, _, cur, fz, h1⟩ := m.t.own hg
      exact heap_ne h1 m.blk (by decide) e
    · exact m.sep g e hg
  · intro g hg ht
    rcases fr g hg with e | e
    · exact m.sep g e ht
    · have := (m.t.own ht).2.1
      omega
  · have := (namedP_spec hx).2.1
    show (bag.p.groups ++ [x]).length ≤ 64
    rw [List.length_append]
    simp
    omega
theorem named_tag {w0 w : World} {b P n : Nat} {lv uv : Value} {ws : List ByteArray} {V : PoV} {bag : Bag} (hE : Below w0.heap.size w0 w) (hbb : w0.heap.size ≤ b) (hPP : w0.heap.size ≤ P) (h : Rs w b P 1 n lv uv ws) (m : Pm w0.heap.size w P uv V bag) (hw : ws[0]? = some W_tag) :
    Calls Tryz.prog 57 #[.pointer (some ⟨b, 0, none⟩), .pointer (some ⟨P, 1, none⟩)] w fun r w' => LKeeps w0.heap.size w w' ∧ LineR (lineP bag n ws) n (LineOk w0.heap.size b P n lv ws w') r ∧ ErrP w' P (lineP bag n ws) := by
  rw [line_tag bag n hw]
  have of : Off (fun k => k = b ∨ k = P ∨ V.t.ownBlock = some k) w [81, 26, 46] := by
    rintro k (e | e | e)
    · exact ⟨_, _, _, by subst e; exact h.blk, by simp⟩
    · exact ⟨_, _, _, by subst e; exact m.blk, by simp⟩
    · obtain ⟨_, _, cur, fz, h1⟩ := m.t.own e
      exact ⟨cur, _, fz, h1, by simp⟩
  have hPb : P ≠ b := m.blk.ne_ h.blk (by decide)
  refine (named_any (q := 1) h m.blk rfl m.t hE.size).mono fun r w' hh => have hk := (hh.line (fun k hk => Or.inl hk)).1; have hl := (hh.line (fun k hk => Or.inl hk)).2; ⟨LKeeps.of hk ?_ of (by decide), LineR.map (hl.mono fun x hx ⟨h1, k', lst', R, B, NR, fr⟩ => ⟨h1, k', uv, ⟨V.g, lst', V.h, V.a⟩, R, ⟨B, ?_, NR, own_off m.h hk of (by decide), m.a.off hk of (by decide) (by decide) (by decide) (by decide), m.u.off hk of (by decide), ?_, m.gl, ?_, m.hl, m.al, m.ul⟩⟩), ErrP.map fun e he => ⟨_, _, _, _, m.blk.keep (hh.err e he) (hPb)⟩⟩
  · rintro k (e | e | e)
    · omega
    · omega
    · exact (m.t.own e).1
  · refine m.g.keep hk of (by decide) ?_
    rintro g hg (e | e | e)
    · obtain ⟨_, _, cur, fz, h1⟩ := m.g.own hg
      exact heap_ne h1 h.blk (by decide) e
    · obtain ⟨_, _, cur, fz, h1⟩ := m.g.own hg
      exact heap_ne h1 m.blk (by decide) e
    · exact m.sep g hg e
  · intro g hg ht
    rcases fr g ht with e | e
    · exact m.sep g hg e
    · have := (m.g.own hg).2.1
      omega
  · have := (namedP_spec hx).2.1
    show (bag.p.tags ++ [x]).length ≤ 64
    rw [List.length_append]
    simp
    omega
theorem line_hosts {w0 w : World} (env : Env w0) {b P n : Nat} {lv uv : Value} {ws : List ByteArray} {V : PoV} {bag : Bag} (hE : Below w0.heap.size w0 w) (hbb : w0.heap.size ≤ b) (hPP : w0.heap.size ≤ P) (h : Rs w b P 1 n lv uv ws) (m : Pm w0.heap.size w P uv V bag) (hw : ws[0]? = some W_host) :
    Calls Tryz.prog 59 #[.pointer (some ⟨b, 0, none⟩)] w fun r w' => LKeeps w0.heap.size w w' ∧ LineR (lineP bag n ws) n (LineOk w0.heap.size b P n lv ws w') r ∧ ErrP w' P (lineP bag n ws) := by
  rw [line_host bag n hw]
  have of : Off (fun k => k = b ∨ k = P ∨ V.h.ownBlock = some k) w [81, 26, 53] := by
    rintro k (e | e | e)
    · exact ⟨_, _, _, by subst e; exact h.blk, by simp⟩
    · exact ⟨_, _, _, by subst e; exact m.blk, by simp⟩
    · obtain ⟨_, _, cur, fz, h1⟩ := own_at m.h e
      exact ⟨cur, _, fz, h1, by simp⟩
  have ng : ∀ (v : Value) (l : List Nm), NmRow w w0.heap.size v l → ∀ g, v.ownBlock = some g → ¬ (g = b ∨ g = P ∨ V.h.ownBlock = some g) := by
    intro v l hv g hg e
    obtain ⟨_, _, cur, fz, h1⟩ := hv.own hg
    rcases e with e | e | e
    · exact heap_ne h1 h.blk (by decide) e
    · exact heap_ne h1 m.blk (by decide) e
    · obtain ⟨_, _, cur2, fz2, h2⟩ := own_at m.h e
      rw [h1] at h2
      injection h2 with h2
      injection h2 with _ h2 _
      exact absurd h2 (by decide)
  have hPb : P ≠ b := m.blk.ne_ h.blk (by decide)
  refine (host_any env hE h m.blk rfl m.h hbb).mono fun r w' hh => have hk := (hh.line (fun k hk => Or.inl hk)).1; have hl := (hh.line (fun k hk => Or.inl hk)).2; ⟨LKeeps.of hk ?_ of (by decide), LineR.map (hl.mono fun x hx ⟨h1, k', lst', R, B, NR, fr⟩ => ⟨h1, k', uv, ⟨V.g, V.t, lst', V.a⟩, R, ⟨B, m.g.keep hk of (by decide) (ng _ _ m.g), m.t.keep hk of (by decide) (ng _ _ m.t), NR, m.a.off hk of (by decide) (by decide) (by decide) (by decide), m.u.off hk of (by decide), m.sep, m.gl, m.tl, ?_, m.al, m.ul⟩⟩), ErrP.map fun e he => ⟨_, _, _, _, m.blk.keep (hh.err e he) (hPb)⟩⟩
  · rintro k (e | e | e)
    · omega
    · omega
    · exact (own_at m.h e).1
  · have := (hostP_spec hx).2.1
    show (bag.p.hosts ++ [x]).length ≤ 64
    rw [List.length_append]
    simp
    omega
theorem line_accepts {w0 w : World} (env : Env w0) {b P n : Nat} {lv uv : Value} {ws : List ByteArray} {V : PoV} {bag : Bag} (hE : Below w0.heap.size w0 w) (hbb : w0.heap.size ≤ b) (hPP : w0.heap.size ≤ P) (h : Rs w b P 1 n lv uv ws) (m : Pm w0.heap.size w P uv V bag) (hw : ws[0]? = some W_accept) :
    Calls Tryz.prog 60 #[.pointer (some ⟨b, 0, none⟩)] w fun r w' => LKeeps w0.heap.size w w' ∧ LineR (lineP bag n ws) n (LineOk w0.heap.size b P n lv ws w') r ∧ ErrP w' P (lineP bag n ws) := by
  rw [line_accept bag n hw]
  have of : Off (fun k => k = b ∨ k = P ∨ V.a.ownBlock = some k ∨ uv.ownBlock = some k) w [81, 26, 57, 91] := by
    rintro k (e | e | e | e)
    · exact ⟨_, _, _, by subst e; exact h.blk, by simp⟩
    · exact ⟨_, _, _, by subst e; exact m.blk, by simp⟩
    · obtain ⟨_, _, cur, fz, h1⟩ := m.a.own e
      exact ⟨cur, _, fz, h1, by simp⟩
    · obtain ⟨_, _, cur, fz, h1⟩ := m.u.own e
      exact ⟨cur, _, fz, h1, by simp⟩
  have ng : ∀ (v : Value) (l : List Nm), NmRow w w0.heap.size v l → ∀ g, v.ownBlock = some g → ¬ (g = b ∨ g = P ∨ V.a.ownBlock = some g ∨ uv.ownBlock = some g) := by
    intro v l hv g hg e
    obtain ⟨_, _, cur, fz, h1⟩ := hv.own hg
    obtain ⟨cur2, e2, fz2, h2, h3⟩ := of g e
    rw [h1] at h2
    injection h2 with h2
    injection h2 with _ h2 _
    rw [← h2] at h3
    exact absurd h3 (by decide)
  have hPb : P ≠ b := m.blk.ne_ h.blk (by decide)
  have hPu : uv.ownBlock = some P → False := fun e => by
    obtain ⟨_, _, cur, fz, h1⟩ := m.u.own e
    exact heap_ne h1 m.blk (by decide) rfl
  refine (accept_any env hE h m.blk rfl m.a m.u (by have := m.ul; have := m.al; omega) hbb).mono fun r w' hh => have hk := (hh.line (fun k hk => hk.elim Or.inl fun e => Or.inr (Or.inr (Or.inr e)))).1; have hl := (hh.line (fun k hk => hk.elim Or.inl fun e => Or.inr (Or.inr (Or.inr e)))).2; ⟨LKeeps.of hk ?_ of (by decide), LineR.map (hl.mono fun x hx ⟨h1, k', lst', uv', R, B, AR, UR, fr, fr2, xl⟩ => ⟨h1, k', uv', ⟨V.g, V.t, V.h, lst'⟩, R, ⟨B, m.g.keep hk of (by decide) (ng _ _ m.g), m.t.keep hk of (by decide) (ng _ _ m.t), own_off m.h hk of (by decide), AR, UR, m.sep, m.gl, m.tl, m.hl, ?_, ?_⟩⟩), ErrP.map fun e he => ⟨_, _, _, _, m.blk.keep (hh.err e he) (fun e => e.elim hPb hPu)⟩⟩
  · rintro k (e | e | e | e)
    · omega
    · omega
    · exact (m.a.own e).1
    · exact (m.u.own e).1
  · have := (acceptP_spec hx).2.1
    show (bag.p.acls ++ [x.1]).length ≤ 64
    rw [List.length_append]
    simp
    omega
  · show (bag.used ++ x.2.map fun y => (y.1, n, y.2)).length ≤ 128 * (bag.p.acls ++ [x.1]).length
    rw [List.length_append, List.length_append, List.length_map]
    have := m.ul
    simp
    omega

set_option maxHeartbeats 4000000 in
set_option maxRecDepth 100000 in
theorem does1_any {w0 w : World} {b P n c : Nat} {lv uv : Value} {ws : List ByteArray} {V : PoV} {bag : Bag} (hE : Below w0.heap.size w0 w) (hbb : w0.heap.size ≤ b) (hPP : w0.heap.size ≤ P) (h : Rs w b P 1 n lv uv ws) (m : Pm w0.heap.size w P uv V bag) (hw : ws[0]? = some W_group) (hc : Blk w c 76 #[.pointer (some ⟨b, 0, none⟩)]) :
    Calls Tryz.prog 56 #[.pointer (some ⟨c, 0, none⟩)] w fun r w' => LKeeps w0.heap.size w w' ∧ LineR (lineP bag n ws) n (LineOk w0.heap.size b P n lv ws w') r ∧ ErrP w' P (lineP bag n ws) := by
  have HN := named_group (w := w.drew) (n := n) (lv := lv) ⟨hE.os, hE.tape, hE.output, hE.size, hE.block⟩ hbb hPP h.drew m.drew hw
  have x0 := hc.cell 0
  have x2 := h.blk.cell 2
  simp at x0 x2
  have HC := Lib.hid hc
  clear h m hc
  cases ho : lineP bag n ws with
  | error e =>
    rw [ho] at HN
    have HE : RowKit.Hid (Calls Tryz.prog 57 #[.pointer (some ⟨b, 0, none⟩), .pointer (some ⟨P, 0, none⟩)] w.drew fun r w' => LKeeps w0.heap.size w.drew w' ∧ r = PanicAt e.1 n e.2 ∧ ErrP (α := Bag) w' P (.error e)) := Lib.hid HN
    clear HN ho
    go_enter Tryz.func56, Tryz.ntmps56
    refine wp_region_held_drew (S := (fun w' => w'.cell? ⟨c, 0, none⟩ = some (.pointer (some ⟨b, 0, none⟩)) ∧ w'.cell? ⟨b, 2, none⟩ = some (.pointer (some ⟨P, 0, none⟩)))) (by kernel_rfl) (⟨x0, x2⟩) (fun hHeld => ?_)
    refine tH 0 ?_; try simp only [Ap]
    refine tH 1 ?_; try simp only [Ap]
    refine tH 2 ?_; try simp only [Ap]
    refine tH 3 ?_; try simp only [Ap]
    refine tH 4 ?_; try simp only [Ap]
    refine tH 5 ?_; try simp only [Ap]
    refine tH 6 ?_; try simp only [Ap]
    refine wpAnyH_ready (rs := [7]) (by kernel_rfl) (by simp) ?_
    refine AllReadyH.cons rfl (fun K hK => ?_) AllReadyH.nil
    go_simp
    refine HE.out.mono ?_
    rintro r w5 ⟨d5, rfl, p5⟩
    unfold PanicAt
    exact ⟨rfl, d5.of_drew, rfl, p5⟩
  | ok x =>
    rw [ho] at HN
    have HE : RowKit.Hid (Calls Tryz.prog 57 #[.pointer (some ⟨b, 0, none⟩), .pointer (some ⟨P, 0, none⟩)] w.drew fun r w' => LKeeps w0.heap.size w.drew w' ∧ (r = .returned (.tuple #[]) ∧ ∃ k' uv' V', Rs w' b P k' n lv uv' ws ∧ Pm w0.heap.size w' P uv' V' x)) := Lib.hid (HN.mono fun r w' ⟨h1, h2, _⟩ => ⟨h1, h2⟩)
    clear HN ho
    go_enter Tryz.func56, Tryz.ntmps56
    refine wp_region_held_drew (S := (fun w' => w'.cell? ⟨c, 0, none⟩ = some (.pointer (some ⟨b, 0, none⟩)) ∧ w'.cell? ⟨b, 2, none⟩ = some (.pointer (some ⟨P, 0, none⟩)))) (by kernel_rfl) (⟨x0, x2⟩) (fun hHeld => ?_)
    refine tH 0 ?_; try simp only [Ap]
    refine tH 1 ?_; try simp only [Ap]
    refine tH 2 ?_; try simp only [Ap]
    refine tH 3 ?_; try simp only [Ap]
    refine tH 4 ?_; try simp only [Ap]
    refine tH 5 ?_; try simp only [Ap]
    refine tH 6 ?_; try simp only [Ap]
    refine wpAnyH_ready (rs := [7]) (by kernel_rfl) (by simp) ?_
    refine AllReadyH.cons rfl (fun K hK => ?_) AllReadyH.nil
    go_simp
    refine HE.out.mono ?_
    rintro r w5 ⟨d5, rfl, k', uv', V', R5, M5⟩
    have y0 := (HC.out.off d5.of_drew LKeeps.off (by decide)).cell 0
    have y2 := R5.blk.cell 2
    simp at y0 y2
    refine hK.out _ _ (⟨y0, y2⟩) (fun hHeld => ?_)
    clear hK K
    try simp only [Ap]
    refine wpAnyH_done (by kernel_rfl) ?_ _
    refine ⟨rfl, _, results_none rfl _ _ _, d5.of_drew, ⟨rfl, _, _, _, R5, M5⟩, fun e he => (by cases he)⟩
set_option maxHeartbeats 4000000 in
set_option maxRecDepth 100000 in
theorem does2_any {w0 w : World} {b P n c : Nat} {lv uv : Value} {ws : List ByteArray} {V : PoV} {bag : Bag} (hE : Below w0.heap.size w0 w) (hbb : w0.heap.size ≤ b) (hPP : w0.heap.size ≤ P) (h : Rs w b P 1 n lv uv ws) (m : Pm w0.heap.size w P uv V bag) (hw : ws[0]? = some W_tag) (hc : Blk w c 76 #[.pointer (some ⟨b, 0, none⟩)]) :
    Calls Tryz.prog 58 #[.pointer (some ⟨c, 0, none⟩)] w fun r w' => LKeeps w0.heap.size w w' ∧ LineR (lineP bag n ws) n (LineOk w0.heap.size b P n lv ws w') r ∧ ErrP w' P (lineP bag n ws) := by
  have HN := named_tag (w := w.drew) (n := n) (lv := lv) ⟨hE.os, hE.tape, hE.output, hE.size, hE.block⟩ hbb hPP h.drew m.drew hw
  have x0 := hc.cell 0
  have x2 := h.blk.cell 2
  simp at x0 x2
  have HC := Lib.hid hc
  clear h m hc
  cases ho : lineP bag n ws with
  | error e =>
    rw [ho] at HN
    have HE : RowKit.Hid (Calls Tryz.prog 57 #[.pointer (some ⟨b, 0, none⟩), .pointer (some ⟨P, 1, none⟩)] w.drew fun r w' => LKeeps w0.heap.size w.drew w' ∧ r = PanicAt e.1 n e.2 ∧ ErrP (α := Bag) w' P (.error e)) := Lib.hid HN
    clear HN ho
    go_enter Tryz.func58, Tryz.ntmps58
    refine wp_region_held_drew (S := (fun w' => w'.cell? ⟨c, 0, none⟩ = some (.pointer (some ⟨b, 0, none⟩)) ∧ w'.cell? ⟨b, 2, none⟩ = some (.pointer (some ⟨P, 0, none⟩)))) (by kernel_rfl) (⟨x0, x2⟩) (fun hHeld => ?_)
    refine tH 0 ?_; try simp only [Ap]
    refine tH 1 ?_; try simp only [Ap]
    refine tH 2 ?_; try simp only [Ap]
    refine tH 3 ?_; try simp only [Ap]
    refine tH 4 ?_; try simp only [Ap]
    refine tH 5 ?_; try simp only [Ap]
    refine tH 6 ?_; try simp only [Ap]
    refine wpAnyH_ready (rs := [7]) (by kernel_rfl) (by simp) ?_
    refine AllReadyH.cons rfl (fun K hK => ?_) AllReadyH.nil
    go_simp
    refine HE.out.mono ?_
    rintro r w5 ⟨d5, rfl, p5⟩
    unfold PanicAt
    exact ⟨rfl, d5.of_drew, rfl, p5⟩
  | ok x =>
    rw [ho] at HN
    have HE : RowKit.Hid (Calls Tryz.prog 57 #[.pointer (some ⟨b, 0, none⟩), .pointer (some ⟨P, 1, none⟩)] w.drew fun r w' => LKeeps w0.heap.size w.drew w' ∧ (r = .returned (.tuple #[]) ∧ ∃ k' uv' V', Rs w' b P k' n lv uv' ws ∧ Pm w0.heap.size w' P uv' V' x)) := Lib.hid (HN.mono fun r w' ⟨h1, h2, _⟩ => ⟨h1, h2⟩)
    clear HN ho
    go_enter Tryz.func58, Tryz.ntmps58
    refine wp_region_held_drew (S := (fun w' => w'.cell? ⟨c, 0, none⟩ = some (.pointer (some ⟨b, 0, none⟩)) ∧ w'.cell? ⟨b, 2, none⟩ = some (.pointer (some ⟨P, 0, none⟩)))) (by kernel_rfl) (⟨x0, x2⟩) (fun hHeld => ?_)
    refine tH 0 ?_; try simp only [Ap]
    refine tH 1 ?_; try simp only [Ap]
    refine tH 2 ?_; try simp only [Ap]
    refine tH 3 ?_; try simp only [Ap]
    refine tH 4 ?_; try simp only [Ap]
    refine tH 5 ?_; try simp only [Ap]
    refine tH 6 ?_; try simp only [Ap]
    refine wpAnyH_ready (rs := [7]) (by kernel_rfl) (by simp) ?_
    refine AllReadyH.cons rfl (fun K hK => ?_) AllReadyH.nil
    go_simp
    refine HE.out.mono ?_
    rintro r w5 ⟨d5, rfl, k', uv', V', R5, M5⟩
    have y0 := (HC.out.off d5.of_drew LKeeps.off (by decide)).cell 0
    have y2 := R5.blk.cell 2
    simp at y0 y2
    refine hK.out _ _ (⟨y0, y2⟩) (fun hHeld => ?_)
    clear hK K
    try simp only [Ap]
    refine wpAnyH_done (by kernel_rfl) ?_ _
    refine ⟨rfl, _, results_none rfl _ _ _, d5.of_drew, ⟨rfl, _, _, _, R5, M5⟩, fun e he => (by cases he)⟩
end Go.Proofs.YtbiglifngfgffaaGreatDoor

/- How reading gives up (Parse$1): the deferred function's two contracts. -/
namespace Go.Proofs.YtbiglifngfgffaaGreatDoor
open Go.RowKit
attribute [local go_sem ↓] Go.wp_at_zero Go.wp_at_succ

theorem catch_idle (P F : Nat) (w : World) : CallsD Tryz.prog 25 #[.pointer (some ⟨P, 0, none⟩), .pointer (some ⟨F, 0, none⟩)] .returning w fun e u' w' => e = .returned (.tuple #[]) ∧ u' = .returning ∧ w' = w := by
  refine callsD_of_wpS Tryz.func25 rfl fun c₀ cs hu => ?_
  apply wpS_seq
  apply wpS_region
  simp [wpOpsS, go_sem, recoverD, hu, Tryz.ntmps25, Exit.thenS]
  apply wpS_seq
  apply wpS_region
  simp [wpOpsS, go_sem, Exit.thenS]
  refine wpS_cond (t := false) (by simp [Act.eval, Array.replicate]) ?_
  simp only [Bool.false_eq_true, if_false]
  refine wpS_of_wp (wp_skip ?_)
  cases c₀
  simp_all [bodyPostS, results, Tryz.results25]

theorem put4 {w : World} {g : Nat} {t : TypeId} {z0 z1 z2 z3 : Value} (v0 v1 v2 v3 : Value) (h : Blk w g t #[z0, z1, z2, z3]) : Blk ((((w.setCell ⟨g, 0, none⟩ v0).setCell ⟨g, 1, none⟩ v1).setCell ⟨g, 2, none⟩ v2).setCell ⟨g, 3, none⟩ v3) g t #[v0, v1, v2, v3] ∧ Keeps (fun x => x = g) w ((((w.setCell ⟨g, 0, none⟩ v0).setCell ⟨g, 1, none⟩ v1).setCell ⟨g, 2, none⟩ v2).setCell ⟨g, 3, none⟩ v3) :=
  ⟨(((h.set_ 0 v0).set_ 1 v1).set_ 2 v2).set_ 3 v3, ((((Keeps.refl (fun x => x = g) w).setCell (p := ⟨g, 0, none⟩) (Or.inl rfl) v0).setCell (p := ⟨g, 1, none⟩) (Or.inl rfl) v1).setCell (p := ⟨g, 2, none⟩) (Or.inl rfl) v2).setCell (p := ⟨g, 3, none⟩) (Or.inl rfl) v3⟩
theorem put3 {w : World} {g : Nat} {t : TypeId} {z0 z1 z2 : Value} (v0 v1 v2 : Value) (h : Blk w g t #[z0, z1, z2]) : Blk (((w.setCell ⟨g, 0, none⟩ v0).setCell ⟨g, 1, none⟩ v1).setCell ⟨g, 2, none⟩ v2) g t #[v0, v1, v2] ∧ Keeps (fun x => x = g) w (((w.setCell ⟨g, 0, none⟩ v0).setCell ⟨g, 1, none⟩ v1).setCell ⟨g, 2, none⟩ v2) :=
  ⟨((h.set_ 0 v0).set_ 1 v1).set_ 2 v2, (((Keeps.refl (fun x => x = g) w).setCell (p := ⟨g, 0, none⟩) (Or.inl rfl) v0).setCell (p := ⟨g, 1, none⟩) (Or.inl rfl) v1).setCell (p := ⟨g, 2, none⟩) (Or.inl rfl) v2⟩

set_option maxHeartbeats 4000000 in
set_option maxRecDepth 100000 in
theorem catch_panicking (P F e n i : Nat) (w : World) (older : List PanicEntry) {p0 p1 p2 p3 f0 f1 f2 : Value} (hP : Blk w P 26 #[p0, p1, p2, p3]) (hF : Blk w F 34 #[f0, f1, f2]) (hPF : P ≠ F) :
    CallsD Tryz.prog 25 #[.pointer (some ⟨P, 0, none⟩), .pointer (some ⟨F, 0, none⟩)] (.panicking ({ v := .iface 74 (.agg #[.int .i64 (e : Int), .int .i64 (n : Int), .int .i64 (i : Int)]), recovered := false } :: older)) w fun r u' w' =>
      r = .returned (.tuple #[]) ∧ u' = .panicking ({ v := .iface 74 (.agg #[.int .i64 (e : Int), .int .i64 (n : Int), .int .i64 (i : Int)]), recovered := true } :: older) ∧ Keeps (fun k => k = P ∨ k = F) w w' ∧ Blk w' P 26 #[.slice none 0 0, .slice none 0 0, .slice none 0 0, .slice none 0 0] ∧ Blk w' F 34 #[.int .i64 (e : Int), .int .i64 (n : Int), .int .i64 (i : Int)] := by
  refine callsD_of_wpS Tryz.func25 rfl fun c₀ cs hu => ?_
  apply wpS_seq
  apply wpS_region
  simp [wpOpsS, go_sem, recoverD, hu, Tryz.ntmps25, Exit.thenS]
  refine wpS_of_wp ?_
  change Code.wp _ _ _ { tmps := #[.pointer (some ⟨P, 0, none⟩), .pointer (some ⟨F, 0, none⟩), .iface 74 (.agg #[.int .i64 (e : Int), .int .i64 (n : Int), .int .i64 (i : Int)]), undef, undef, .iface 74 (.agg #[.int .i64 (e : Int), .int .i64 (n : Int), .int .i64 (i : Int)]), undef, undef, undef, undef, undef, undef, undef, undef, undef, undef, undef, undef, undef], defers := [] } w
  have hta : ∀ w : World, (Instr.typeAssert (.iface 74 (.agg #[.int .i64 (e : Int), .int .i64 (n : Int), .int .i64 (i : Int)])) 20 74 true).run Tryz.prog w = .ok (.tuple #[.agg #[.int .i64 (e : Int), .int .i64 (n : Int), .int .i64 (i : Int)], .bool true]) w := fun _ => by kernel_rfl
  clear hu
  go_upto_region 5 with fail
  have NB := Blk.new w 74 #[.int .i64 (e : Int), .int .i64 (n : Int), .int .i64 (i : Int)]
  have d1 := boxed w (.cells #[.int .i64 (e : Int), .int .i64 (n : Int), .int .i64 (i : Int)] 74)
  have hP1 := hP.below d1 hP.lt
  have hF1 := hF.below d1 hF.lt
  have KD : Keeps (fun k => k = P ∨ k = F) w (w.alloc (.cells #[.int .i64 (e : Int), .int .i64 (n : Int), .int .i64 (i : Int)] 74)) := Keeps.of_below d1 fun k hk _ => hk
  have hPl := hP.lt
  have hFl := hF.lt
  generalize w.alloc (.cells #[.int .i64 (e : Int), .int .i64 (n : Int), .int .i64 (i : Int)] 74) = w1 at NB hP1 hF1 KD ⊢
  generalize w.heap.size = N at NB hPl hFl ⊢
  clear d1 hP hF
  have n0 := NB.cell 0
  have n1 := NB.cell 1
  have n2 := NB.cell 2
  have x0 : w1.cell? ⟨P, 0, none⟩ = _ := hP1.cell 0
  have x1 : w1.cell? ⟨P, 1, none⟩ = _ := hP1.cell 1
  have x2 : w1.cell? ⟨P, 2, none⟩ = _ := hP1.cell 2
  have x3 : w1.cell? ⟨P, 3, none⟩ = _ := hP1.cell 3
  have z0 : w1.frozen? ⟨P, 0, none⟩ = false := hP1.frozen 0
  have z1 : w1.frozen? ⟨P, 1, none⟩ = false := hP1.frozen 1
  have z2 : w1.frozen? ⟨P, 2, none⟩ = false := hP1.frozen 2
  have z3 : w1.frozen? ⟨P, 3, none⟩ = false := hP1.frozen 3
  obtain ⟨PB, KP⟩ := put4 (w := w1) (.slice none 0 0) (.slice none 0 0) (.slice none 0 0) (.slice none 0 0) hP1
  obtain ⟨W4, hW4⟩ : ∃ W, W = (((w1.setCell ⟨P, 0, none⟩ (.slice none 0 0)).setCell ⟨P, 1, none⟩ (.slice none 0 0)).setCell ⟨P, 2, none⟩ (.slice none 0 0)).setCell ⟨P, 3, none⟩ (.slice none 0 0) := ⟨_, rfl⟩
  rw [← hW4] at PB KP
  have HW4 := Lib.hid hW4
  clear hW4
  have FB := Blk.keep (show Blk w1 F _ _ from hF1) KP (fun e => hPF e.symm)
  have NB2 := Blk.keep (show Blk w1 N _ _ from NB) KP (by omega)
  simp at n0 n1 n2 x0 x1 x2 x3
  have m0 := NB2.cell 0
  have m1 := NB2.cell 1
  have m2 := NB2.cell 2
  have y0 := FB.cell 0
  have y1 := FB.cell 1
  have y2 := FB.cell 2
  have u0 := FB.frozen 0
  have u1 := FB.frozen 1
  have u2 := FB.frozen 2
  simp at m0 m1 m2 y0 y1 y2
  obtain ⟨FB2, KF⟩ := put3 (.int .i64 (e : Int)) (.int .i64 (n : Int)) (.int .i64 (i : Int)) FB
  obtain ⟨W7, hW7⟩ : ∃ W, W = ((W4.setCell ⟨F, 0, none⟩ (.int .i64 (e : Int))).setCell ⟨F, 1, none⟩ (.int .i64 (n : Int))).setCell ⟨F, 2, none⟩ (.int .i64 (i : Int)) := ⟨_, rfl⟩
  rw [← hW7] at FB2 KF
  have HW7 := Lib.hid hW7
  clear hW7
  have HFB := Lib.hid FB2
  have HPB := Lib.hid (PB.keep KF hPF)
  have HK := Lib.hid (((KD.trans (KP.mono (T := fun k => k = P ∨ k = F) fun k _ hk => Or.inl hk)).trans (KF.mono fun k _ hk => Or.inr hk)).drew)
  have NB3 := NB2.keep KF (by omega)
  have o0 := NB3.cell 0
  have o1 := NB3.cell 1
  have o2 := NB3.cell 2
  simp at o0 o1 o2
  clear FB2 PB KF KP KD NB NB2 NB3 FB hP1 hF1
  refine wp_region_held_drew (S := (fun w' => w'.cell? ⟨N, 0, none⟩ = some (.int .i64 (e : Int)) ∧ w'.cell? ⟨N, 1, none⟩ = some (.int .i64 (n : Int)) ∧ w'.cell? ⟨N, 2, none⟩ = some (.int .i64 (i : Int)))) (by kernel_rfl) (⟨n0, n1, n2⟩) (fun hHeld => ?_)
  refine tH 0 ?_; try simp only [Ap]
  refine tH 1 ?_; try simp only [Ap]
  refine tH 2 ?_; try simp only [Ap]
  refine wpAnyH_ready (rs := [3]) (by kernel_rfl) (by simp) ?_
  refine AllReadyH.cons rfl (fun K hK => ?_) AllReadyH.nil
  go_simp
  rw [← HW4.out]
  refine hK.out _ _ (⟨m0, m1, m2⟩) (fun hHeld => ?_)
  clear hK K
  try simp only [Ap]
  refine wpAnyH_ready (rs := [4]) (by kernel_rfl) (by simp) ?_
  refine AllReadyH.cons rfl (fun K hK => ?_) AllReadyH.nil
  go_simp
  rw [← HW7.out]
  refine hK.out _ _ (⟨o0, o1, o2⟩) (fun hHeld => ?_)
  clear hK K
  try simp only [Ap]
  refine wpAnyH_done (by kernel_rfl) ?_ _
  exact ⟨rfl, _, rfl, _, results_none rfl _ _ _, rfl, rfl, HK.out, HPB.out, HFB.out⟩
end Go.Proofs.YtbiglifngfgffaaGreatDoor

/- A policy is read (Parse): what its walk wants. -/
namespace Go.Proofs.YtbiglifngfgffaaGreatDoor
open Go.RowKit
attribute [local go_sem ↓] Go.wp_at_zero Go.wp_at_succ

theorem words_len (l : List UInt8) : (wordsL l).length ≤ l.length + 1 ∧ ∀ s ∈ wordsL l, s.size ≤ l.length := by
  have h := fieldsGo_len l []
  unfold wordsL fieldsB
  constructor
  · rw [List.length_map]
    have := (List.takeWhile_prefix plainWord (l := fieldsGo [] l)).length_le
    omega
  · intro s hs
    obtain ⟨x, hx, rfl⟩ := List.mem_map.1 hs
    have := h.2 x ((List.takeWhile_prefix plainWord).subset hx)
    show (x.toArray).size ≤ l.length
    rw [List.size_toArray]
    simpa using this
theorem load4 {w : World} {g : Nat} {v0 v1 v2 v3 : Value} (h : Blk w g 26 #[v0, v1, v2, v3]) : (loadVar 26 ⟨g, 0, none⟩).run Tryz.prog w = .ok (.agg #[v0, v1, v2, v3]) w := by
  have c0 := h.cell 0
  have c1 := h.cell 1
  have c2 := h.cell 2
  have c3 := h.cell 3
  simp at c0 c1 c2 c3
  simp [loadVar, go_sem, c0, c1, c2, c3]
theorem load3 {w : World} {g : Nat} {v0 v1 v2 : Value} (h : Blk w g 34 #[v0, v1, v2]) : (loadVar 34 ⟨g, 0, none⟩).run Tryz.prog w = .ok (.agg #[v0, v1, v2]) w := by
  have c0 := h.cell 0
  have c1 := h.cell 1
  have c2 := h.cell 2
  simp at c0 c1 c2
  simp [loadVar, go_sem, c0, c1, c2]
/- What Parse hands back. -/
def ParseGot (s : List UInt8) (w : World) (r : Ending) (w' : World) : Prop := (∃ V : PoV, r = .returned (.tuple #[.agg #[V.g, V.t, V.h, V.a], .agg #[.int .i64 ((parseP s).2.1 : Int), .int .i64 ((parseP s).2.2.1 : Int), .int .i64 ((parseP s).2.2.2 : Int)]]) ∧ PoRd w' V (parseP s).1) ∧ Below w.heap.size w w'
theorem NmRd.nil (w : World) : NmRd w (.slice none 0 0) [] := ⟨[], rfl, RowR.empty _ _, fun x hx => by cases hx⟩
theorem AcRd.nil (w : World) : AcRd w (.slice none 0 0) [] := ⟨[], rfl, RowR.empty _ _, fun x hx => by cases hx⟩
theorem PoRd.zero (w : World) : PoRd w ⟨.slice none 0 0, .slice none 0 0, .slice none 0 0, .slice none 0 0⟩ Po.zero := ⟨NmRd.nil w, NmRd.nil w, RowR.empty w 5, AcRd.nil w⟩
theorem ParseGot.bad {s : List UInt8} {w w' : World} {e n i : Nat} (h : parseP s = (Po.zero, (e, n, i))) (hb : Below w.heap.size w w') : ParseGot s w (.returned (.tuple #[.agg #[.slice none 0 0, .slice none 0 0, .slice none 0 0, .slice none 0 0], .agg #[.int .i64 (e : Int), .int .i64 (n : Int), .int .i64 (i : Int)]])) w' := by
  unfold ParseGot
  rw [h]
  exact ⟨⟨⟨.slice none 0 0, .slice none 0 0, .slice none 0 0, .slice none 0 0⟩, rfl, PoRd.zero w'⟩, hb⟩
theorem ParseGot.good {s : List UInt8} {w w' : World} {p : Po} {V : PoV} (h : parseP s = (p, (0, 0, 0))) (hr : PoRd w' V p) (hb : Below w.heap.size w w') : ParseGot s w (.returned (.tuple #[.agg #[V.g, V.t, V.h, V.a], .agg #[.int .i64 0, .int .i64 0, .int .i64 0]])) w' := by
  unfold ParseGot
  rw [h]
  exact ⟨⟨V, rfl, hr⟩, hb⟩
/- What all lines come to. -/
def endP (r : Except Flt Bag) : Po × Flt := match r with
  | .error e => (Po.zero, e)
  | .ok b => match b.used.find? fun u => !knownP b.p u.1 with
    | some u => (Po.zero, (196, u.2))
    | none => (b.p, (0, 0, 0))
def findP (b : Bag) (o : Option Us) : Po × Flt := match o with
  | some u => (Po.zero, (196, u.2))
  | none => (b.p, (0, 0, 0))
theorem endP_ok (b : Bag) : endP (.ok b) = findP b (b.used.find? fun u => !knownP b.p u.1) := by
  unfold endP findP
  rfl
theorem find_hit {b : Bag} {k : Nat} {u : Us} (h : b.used[k]? = some u) : (b.used.drop k).find? (fun u => !knownP b.p u.1) = if knownP b.p u.1 = true then (b.used.drop (k + 1)).find? (fun u => !knownP b.p u.1) else some u := by
  have hk : k < b.used.length := (List.getElem?_eq_some_iff.1 h).1
  rw [List.drop_eq_getElem_cons hk, (List.getElem?_eq_some_iff.1 h).2, List.find?_cons]
  cases knownP b.p u.1 <;> rfl
theorem parse_end {s : List UInt8} (h : ¬ 8192 < s.length) : parseP s = endP (linesP (split1 10 s) 1 ⟨Po.zero, []⟩) := by
  unfold parseP
  rw [if_neg h]
  rfl
theorem results_cc {tmps : Array Value} {w : World} {P F : Nat} {V v2 : Value} (h1 : tmps.getD 2 undef = .pointer (some ⟨P, 0, none⟩)) (h2 : tmps.getD 3 undef = .pointer (some ⟨F, 0, none⟩)) (hl : (loadVar 26 ⟨P, 0, none⟩).run Tryz.prog w = .ok V w) (hl2 : (loadVar 34 ⟨F, 0, none⟩).run Tryz.prog w = .ok v2 w) : (results Tryz.f11 tmps).run Tryz.prog w = .ok (.tuple #[V, v2]) w := by
  have h1' : tmps[2]?.getD undef = .pointer (some ⟨P, 0, none⟩) := by simpa using h1
  have h2' : tmps[3]?.getD undef = .pointer (some ⟨F, 0, none⟩) := by simpa using h2
  have hres : Tryz.f11.results = #[.cell 2 26, .cell 3 34] := rfl
  simp [results, hres, h1', h2', asAddr, hl, hl2]
/- The door: a reader that gave up; a reader that came to its end. -/
theorem door_panic {w : World} {tmps : Array Value} {P F e n i : Nat} {R : Ending → World → Prop} {p0 p1 p2 p3 f0 f1 f2 : Value} (h2 : tmps.getD 2 undef = .pointer (some ⟨P, 0, none⟩)) (h3 : tmps.getD 3 undef = .pointer (some ⟨F, 0, none⟩)) (hP : Blk w P 26 #[p0, p1, p2, p3]) (hF : Blk w F 34 #[f0, f1, f2]) (hPF : P ≠ F)
    (hR : ∀ w', Keeps (fun k => k = P ∨ k = F) w w' → R (.returned (.tuple #[.agg #[.slice none 0 0, .slice none 0 0, .slice none 0 0, .slice none 0 0], .agg #[.int .i64 (e : Int), .int .i64 (n : Int), .int .i64 (i : Int)]])) w') :
    Leaves Tryz.prog Tryz.f11 tmps R [{ target := .fn (.func 25) #[.pointer (some ⟨P, 0, none⟩), .pointer (some ⟨F, 0, none⟩)], args := #[] }] (.panicking [{ v := .iface 74 (.agg #[.int .i64 (e : Int), .int .i64 (n : Int), .int .i64 (i : Int)]), recovered := false }]) w := by
  refine leaves_cons (f := 25) (args := #[.pointer (some ⟨P, 0, none⟩), .pointer (some ⟨F, 0, none⟩)]) (by simp) (by simp [go_sem]) ?_
  refine (catch_panicking P F e n i w [] hP hF hPF).mono ?_
  rintro r u' w' ⟨rfl, rfl, hk, hp, hf⟩
  show Leaves _ _ _ _ [] .returning w'
  exact ⟨_, results_cc h2 h3 (load4 hp) (load3 hf), hR w' hk⟩
theorem door_return {w : World} {tmps : Array Value} {P F : Nat} {R : Ending → World → Prop} {V v2 : Value} (h2 : tmps.getD 2 undef = .pointer (some ⟨P, 0, none⟩)) (h3 : tmps.getD 3 undef = .pointer (some ⟨F, 0, none⟩)) (hl : (loadVar 26 ⟨P, 0, none⟩).run Tryz.prog w = .ok V w) (hl2 : (loadVar 34 ⟨F, 0, none⟩).run Tryz.prog w = .ok v2 w) (hR : R (.returned (.tuple #[V, v2])) w) :
    Leaves Tryz.prog Tryz.f11 tmps R [{ target := .fn (.func 25) #[.pointer (some ⟨P, 0, none⟩), .pointer (some ⟨F, 0, none⟩)], args := #[] }] .returning w := by
  refine leaves_cons (f := 25) (args := #[.pointer (some ⟨P, 0, none⟩), .pointer (some ⟨F, 0, none⟩)]) (by simp) (by simp [go_sem]) ?_
  refine (catch_idle P F w).mono ?_
  rintro r u' w' ⟨rfl, rfl, rfl⟩
  show Leaves _ _ _ _ [] .returning w'
  exact ⟨_, results_cc h2 h3 hl hl2, hR⟩
theorem leaves_same {P : Program} {fn : Func} {t1 t2 : Array Value} {R : Ending → World → Prop} (hr : results fn t1 = results fn t2) : ∀ (ds : List Deferred) (u : FrameMode) (w : World), Leaves P fn t1 R ds u w → Leaves P fn t2 R ds u w := by
  intro ds
  induction ds with
  | nil =>
    intro u w h
    cases u with
    | run => exact h
    | returning => obtain ⟨v, h1, h2⟩ := h; exact ⟨v, hr ▸ h1, h2⟩
    | panicking c => exact h
  | cons d ds ih =>
    intro u w h
    obtain ⟨h1, fv, cap, f, args, h2, h3, h4⟩ := h
    refine ⟨h1, fv, cap, f, args, h2, h3, h4.mono fun e u' w' he => ?_⟩
    cases e with
    | returned v => exact ih _ _ he
    | panicked c => exact ih _ _ he
    | outgrown => exact he
theorem leaves_put {d : Nat} (h2 : d ≠ 2) (h3 : d ≠ 3) {a : Act} {v : Value} {R : Ending → World → Prop} {u : FrameMode} {w : World} (h : Leaves Tryz.prog Tryz.f11 (a.tmps.setIfInBounds d v) R a.defers u w) : Leaves Tryz.prog Tryz.f11 a.tmps R a.defers u w := by
  refine leaves_same ?_ _ _ _ h
  have hres : Tryz.f11.results = #[.cell 2 26, .cell 3 34] := rfl
  unfold results
  rw [hres]
  simp [Array.getElem?_setIfInBounds, h2, h3]
/- The rows of a policy, apart from the rest. -/
theorem NmRow.off {S : Nat → Prop} {w w' : World} {T : List TypeId} {base : Nat} {v : Value} {l : List Nm} (h : NmRow w base v l) (hk : Keeps S w w') (ho : Off S w T) (h0 : 46 ∉ T) (h1 : 9 ∉ T) : NmRow w' base v l := by
  obtain ⟨xs, e, ha, hb⟩ := h
  exact ⟨xs, e, own_off ha hk ho h0, fun x hx => own_off (hb x hx) hk ho h1⟩
structure PmR (base : Nat) (w : World) (V : PoV) (p : Po) : Prop where
  g : NmRow w base V.g p.groups
  t : NmRow w base V.t p.tags
  h : w.ownsRow base 53 5 V.h p.hosts.length (hsCells p.hosts)
  a : AcRow w base V.a p.acls
theorem Pm.rows {base P : Nat} {w : World} {uv : Value} {V : PoV} {bag : Bag} (m : Pm base w P uv V bag) : PmR base w V bag.p := ⟨m.g, m.t, m.h, m.a⟩
theorem PmR.below {base : Nat} {w w' : World} {V : PoV} {p : Po} (m : PmR base w V p) (hb : Below w.heap.size w w') : PmR base w' V p := ⟨m.g.below hb, m.t.below hb, own_below m.h hb, m.a.below hb⟩
theorem PmR.off {S : Nat → Prop} {T : List TypeId} {base : Nat} {w w' : World} {V : PoV} {p : Po} (m : PmR base w V p) (hk : Keeps S w w') (ho : Off S w T) (h0 : 46 ∉ T) (h1 : 9 ∉ T) (h2 : 53 ∉ T) (h3 : 57 ∉ T) (h4 : 5 ∉ T) (h5 : 59 ∉ T) (h6 : 104 ∉ T) : PmR base w' V p :=
  ⟨m.g.off hk ho h0 h1, m.t.off hk ho h0 h1, own_off m.h hk ho h2, m.a.off hk ho h3 h4 h5 h6⟩
theorem PmR.rd {base : Nat} {w : World} {V : PoV} {p : Po} (m : PmR base w V p) : PoRd w V p := ⟨m.g.rd, m.t.rd, RowR.of_own m.h, m.a.rd⟩
theorem Pm.below {base P : Nat} {w w' : World} {uv : Value} {V : PoV} {bag : Bag} (m : Pm base w P uv V bag) (hb : Below w.heap.size w w') : Pm base w' P uv V bag :=
  ⟨m.blk.below hb m.blk.lt, m.g.below hb, m.t.below hb, own_below m.h hb, m.a.below hb, m.u.below hb, m.sep, m.gl, m.tl, m.hl, m.al, m.ul⟩
theorem Pm.reader {S : Nat → Prop} {base P : Nat} {w w' : World} {uv : Value} {V : PoV} {bag : Bag} (m : Pm base w P uv V bag) (hk : Keeps S w w') (ho : Off S w [81]) : Pm base w' P uv V bag :=
  ⟨m.blk.off hk ho (by decide), m.g.off hk ho (by decide) (by decide), m.t.off hk ho (by decide) (by decide), own_off m.h hk ho (by decide), m.a.off hk ho (by decide) (by decide) (by decide) (by decide), m.u.off hk ho (by decide), m.sep, m.gl, m.tl, m.hl, m.al, m.ul⟩
theorem Pm.nil {base P : Nat} {w : World} (h : Blk w P 26 #[.slice none 0 0, .slice none 0 0, .slice none 0 0, .slice none 0 0]) : Pm base w P (.slice none 0 0) ⟨.slice none 0 0, .slice none 0 0, .slice none 0 0, .slice none 0 0⟩ ⟨Po.zero, []⟩ :=
  ⟨h, NmRow.nil _ _, NmRow.nil _ _, World.ownsRow_nil _ _ _ _, AcRow.nil _ _, UsRow.nil _ _, fun x hx => (by cases hx), by decide, by decide, by decide, by decide, by decide⟩
theorem usCells_at : ∀ (l : List (Us × ByteArray)) (k : Nat) (x : Us × ByteArray), l[k]? = some x → (usCells l)[k * 9]? = some (.int .u8 (x.1.1.kind : Int)) ∧ (usCells l)[k * 9 + 1]? = some (.string x.1.1.name) ∧ (usCells l)[k * 9 + 2]? = some (.bool x.1.1.net.a.v6) ∧ (usCells l)[k * 9 + 3]? = some (.int .u64 (x.1.1.net.a.hi : Int)) ∧ (usCells l)[k * 9 + 4]? = some (.int .u64 (x.1.1.net.a.lo : Int)) ∧ (usCells l)[k * 9 + 5]? = some (.int .u8 (x.1.1.net.bits : Int)) ∧ (usCells l)[k * 9 + 6]? = some (.string x.2) ∧ (usCells l)[k * 9 + 7]? = some (.int .i64 (x.1.2.1 : Int)) ∧ (usCells l)[k * 9 + 8]? = some (.int .i64 (x.1.2.2 : Int)) := by
  intro l
  induction l with
  | nil => intro k x h; cases h
  | cons y r ih =>
    intro k x h
    cases k with
    | zero => injection h with h; subst h; exact ⟨rfl, rfl, rfl, rfl, rfl, rfl, rfl, rfl, rfl⟩
    | succ k =>
      rw [show (k + 1) * 9 = k * 9 + 1 + 1 + 1 + 1 + 1 + 1 + 1 + 1 + 1 by omega]
      exact ih k x h
theorem does_has {w : World} {m clock c b : Nat} (h : MBlk w m (doesL c b) clock) : (Instr.lookup 85 (.map (some m)) (.string W_group) true).run Tryz.prog w = .ok (.tuple #[.func (.func 56) #[] #[.pointer (some ⟨c, 0, none⟩)], .bool true]) w ∧
    (Instr.lookup 85 (.map (some m)) (.string W_tag) true).run Tryz.prog w = .ok (.tuple #[.func (.func 58) #[] #[.pointer (some ⟨c, 0, none⟩)], .bool true]) w ∧
    (Instr.lookup 85 (.map (some m)) (.string W_host) true).run Tryz.prog w = .ok (.tuple #[.func (.func 59) #[.pointer (some ⟨b, 0, none⟩)] #[], .bool true]) w ∧
    (Instr.lookup 85 (.map (some m)) (.string W_accept) true).run Tryz.prog w = .ok (.tuple #[.func (.func 60) #[.pointer (some ⟨b, 0, none⟩)] #[], .bool true]) w := by
  have hT := Tryz.underlying85
  have hK := Tryz.underlying9
  exact ⟨run_lookup_sm hT hK h W_group (j := 0) (by rfl) rfl, run_lookup_sm hT hK h W_tag (j := 1) (by rfl) rfl, run_lookup_sm hT hK h W_host (j := 2) (by rfl) rfl, run_lookup_sm hT hK h W_accept (j := 3) (by rfl) rfl⟩
theorem does_not {w : World} {m clock c b : Nat} (h : MBlk w m (doesL c b) clock) {x : ByteArray} (h1 : x ≠ W_group) (h2 : x ≠ W_tag) (h3 : x ≠ W_host) (h4 : x ≠ W_accept) : (Instr.lookup 85 (.map (some m)) (.string x) true).run Tryz.prog w = .ok (.tuple #[.nilFunc, .bool false]) w := by
  refine run_lookup_sm_none Tryz.underlying85 Tryz.underlying9 h x ?_ (by kernel_rfl)
  unfold at_ doesL
  simp only [List.findIdx?_cons, List.findIdx?_nil]
  rw [beq_false_of (Ne.symm h1), beq_false_of (Ne.symm h2), beq_false_of (Ne.symm h3), beq_false_of (Ne.symm h4)]
  rfl
end Go.Proofs.YtbiglifngfgffaaGreatDoor
