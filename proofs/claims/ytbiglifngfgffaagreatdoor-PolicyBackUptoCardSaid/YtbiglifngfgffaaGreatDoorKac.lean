/- Joined out of: PoC PoD PoE PoF PoG. -/
import Derived.Test.YtbiglifngfgffaaGreatDoorKab
set_option linter.unusedVariables false
set_option linter.unusedSimpArgs false

/- Names, ports, protocols, back from their words: the plain law. -/
namespace Go.Proofs.YtbiglifngfgffaaGreatDoor
open Go.RowKit

theorem labc_not {c d : UInt8} (h : labc c = true) (hd : labc d = false) : c ≠ d := by
  rintro rfl
  rw [h] at hd
  cases hd
theorem labc_solid {c : UInt8} (h : labc c = true) : blank c = false ∧ c ≠ 10 ∧ c ≠ 35 ∧ c ≠ 58 := by
  refine ⟨?_, labc_not h (by decide), labc_not h (by decide), labc_not h (by decide)⟩
  unfold blank
  rw [decide_eq_false (labc_not h (by decide)), decide_eq_false (labc_not h (by decide))]
  rfl
theorem az_labc {c : UInt8} (h : az c = true) : labc c = true := by unfold labc; rw [h]; rfl
theorem label_chars {s : List UInt8} (h : labelL s = true) : s ≠ [] ∧ ∀ c ∈ s, labc c = true := by
  unfold labelL at h
  cases s with
  | nil => cases h
  | cons c r =>
    simp only [Bool.and_eq_true] at h
    refine ⟨by simp, fun d hd => ?_⟩
    rcases List.mem_cons.1 hd with rfl | hd
    · exact az_labc h.1.2
    · exact List.all_eq_true.1 h.2 d hd
theorem label_word {s : List UInt8} (h : labelL s = true) : Word s := by
  obtain ⟨h0, hc⟩ := label_chars h
  refine ⟨h0, fun c hcm => ?_, ?_⟩
  · have := labc_solid (hc c hcm)
    exact ⟨this.1, this.2.1⟩
  · cases s with
    | nil => exact absurd rfl h0
    | cons c r =>
      show decide (c ≠ 35) = true
      exact decide_eq_true (labc_solid (hc c (List.mem_cons_self ..))).2.2.1
theorem namesGo_ok : ∀ (l : List ByteArray) (i c : Nat), (∀ s ∈ l, labelB s = true) → c + l.length ≤ 64 → namesGo l i c = .ok l := by
  intro l
  induction l with
  | nil => intro i c _ _; rfl
  | cons s r ih =>
    intro i c h hl
    rw [List.length_cons] at hl
    rw [namesGo, if_neg (by rw [h s (List.mem_cons_self ..)]; decide), if_neg (by omega), ih _ _ (fun t ht => h t (List.mem_cons_of_mem _ ht)) (by omega)]
    rfl
/- A group, or a tag, that may stand. -/
structure NmOk (n : Nm) : Prop where
  name : labelB n.name = true
  ge : 1 ≤ n.list.length
  le : n.list.length ≤ 64
  all : ∀ s ∈ n.list, labelB s = true
theorem namedP_back {n : Nm} {told : List Nm} (w : ByteArray) (h : NmOk n) (hl : told.length < 64) (ht : hasN told n.name = false) : namedP (w :: n.name :: W_eq :: n.list) told = .ok n := by
  unfold namedP
  have hne : n.list ≠ [] := by intro e; have := h.ge; rw [e] at this; cases this
  rw [if_neg (by omega)]
  simp only
  rw [if_neg (by rw [h.name]; decide), if_neg (by rw [ht]; decide), if_neg (by simp), if_neg hne, namesGo_ok _ _ _ h.all (by have := h.le; omega)]
  rfl
theorem hostP_back {x : Hs} {told : List Hs} (w : ByteArray) (h : labelB x.name = true) (ok : x.net.Ok) (hm : pmay x.net = true) (hl : told.length < 64) (ht : hasH told x.name = false) : hostP [w, x.name, W_eq, ofL (ptext x.net)] told = .ok x := by
  unfold hostP
  rw [if_neg (by omega)]
  simp only
  rw [if_neg (by rw [h]; decide), if_neg (by rw [ht]; decide), if_neg (by simp), ofL_toList, preadL_text ok hm]
  simp
theorem selP_to : selP W_to = none := by decide +kernel
theorem selP_ports : selP W_ports = none := by decide +kernel
theorem selsGo_back {en : ByteArray} (he : selP en = none) (t : List ByteArray) (ht : t = [] ∨ ∃ r, t = en :: r) : ∀ (l : List Sel) (i c : Nat), (∀ s ∈ l, selP (ofL (selT s)) = some s) → c + l.length ≤ 64 → 0 < c + l.length → ∃ L, selsGo en (l.map (fun s => ofL (selT s)) ++ t) i c = .ok (L, t) ∧ L.map (·.1) = l := by
  intro l
  induction l with
  | nil =>
    intro i c _ _ hc
    rw [List.map_nil, List.nil_append]
    rcases ht with rfl | ⟨r, rfl⟩
    · refine ⟨[], ?_, rfl⟩
      rw [selsGo, if_neg (by simp at hc; omega)]
    · refine ⟨[], ?_, rfl⟩
      rw [selsGo, if_pos ⟨rfl, by simp at hc; omega⟩]
  | cons s r ih =>
    intro i c h hl _
    rw [List.length_cons] at hl
    have hs := h s (List.mem_cons_self ..)
    obtain ⟨L, h1, h2⟩ := ih (i + 1) (c + 1) (fun x hx => h x (List.mem_cons_of_mem _ hx)) (by omega) (by omega)
    refine ⟨(s, i) :: L, ?_, by rw [List.map_cons, h2]⟩
    rw [List.map_cons, List.cons_append, selsGo, if_neg, hs]
    · simp only
      rw [if_neg (by omega), h1]
      rfl
    · rintro ⟨e, _⟩
      rw [e, he] at hs
      cases hs
theorem num1_dec {n : Nat} (h : n < 65536) : num1 10 65536 (Lib.decDigits n) = some n := decL_num n h
theorem portN_dec {n : Nat} (h : n < 65536) : portN (Lib.decDigits n) = some n := by
  unfold portN
  rw [num1_dec h]
  show (if Lib.decDigits n = Lib.decDigits n then some n else none) = some n
  rw [if_pos rfl]
theorem portsP_back {a b : Nat} (h : a ≤ b) (hb : b < 65536) : portsP (ofL (portT (a, b))) = some (a, b) := by
  unfold portsP portT
  rw [ofL_toList]
  have h45 : (45 : UInt8) ∉ Lib.decDigits a := decL_free a (by decide)
  by_cases e : b = a
  · subst e
    simp only [ne_eq, not_true_eq_false, if_false, List.append_nil]
    rw [cut_one_none h45]
    simp only [Bool.false_eq_true, if_false]
    rw [portN_dec hb]
    simp
  · simp only [ne_eq, e, not_false_eq_true, if_true]
    rw [cut_one_hit _ h45]
    simp only [if_true]
    rw [portN_dec hb, portN_dec (by omega)]
    simp [h]
theorem portsGo_ok : ∀ (l : List (Nat × Nat)) (i c : Nat), (∀ x ∈ l, x.1 ≤ x.2 ∧ x.2 < 65536) → c + l.length ≤ 64 → portsGo (l.map fun x => ofL (portT x)) i c = .ok l := by
  intro l
  induction l with
  | nil => intro i c _ _; rfl
  | cons x r ih =>
    intro i c h hl
    rw [List.length_cons] at hl
    obtain ⟨h1, h2⟩ := h x (List.mem_cons_self ..)
    rw [List.map_cons, portsGo, show portsP (ofL (portT x)) = some x from portsP_back h1 h2]
    simp only
    rw [if_neg (by omega), ih _ _ (fun t ht => h t (List.mem_cons_of_mem _ ht)) (by omega)]
    rfl
def protoOk (x : Nat) : Bool := decide (x = 1) || decide (x = 6) || decide (x = 17)
theorem protoOk_cases {x : Nat} (h : protoOk x = true) : x = 1 ∨ x = 6 ∨ x = 17 := by
  unfold protoOk at h
  simpa [or_assoc] using h
theorem protoN_T {x : Nat} (h : protoOk x = true) : protoN (protoT x) = x := by
  rcases protoOk_cases h with rfl | rfl | rfl <;> decide
theorem protosGo_back : ∀ (l : List Nat) (k : Nat), rising k l = true → (∀ x ∈ l, protoOk x = true) → protosGo k (l.map protoT) = some l := by
  intro l
  induction l with
  | nil => intro k _ _; rfl
  | cons x r ih =>
    intro k h hp
    have hx := hp x (List.mem_cons_self ..)
    unfold rising at h
    simp only [Bool.and_eq_true, decide_eq_true_eq] at h
    rw [List.map_cons, protosGo, protoN_T hx, if_neg (by have := protoOk_cases hx; omega), ih _ h.2 fun y hy => hp y (List.mem_cons_of_mem _ hy)]
    rfl
theorem protoT_no44 (x : Nat) : (44 : UInt8) ∉ protoT x := by
  unfold protoT
  split
  · decide
  · split <;> decide
theorem protoT_solid (x : Nat) : ∀ c ∈ protoT x, blank c = false ∧ c ≠ 10 ∧ c ≠ 35 := by
  unfold protoT
  split
  · decide
  · split <;> decide
theorem protoT_ne (x : Nat) : protoT x ≠ [] := by
  unfold protoT
  split
  · decide
  · split <;> decide
theorem join_protos_ne {l : List Nat} (h : l ≠ []) (hp : ∀ x ∈ l, protoOk x = true) : ofL (Lib.join (l.map protoT) [44]) ≠ W_any := by
  cases l with
  | nil => exact absurd rfl h
  | cons x r =>
    intro e
    have e := ofL_inj (e.trans (ofL_back W_any).symm)
    have hx := hp x (List.mem_cons_self ..)
    have h3 : ∃ y ys, Lib.join ((x :: r).map protoT) [44] = y :: ys ∧ y ≠ 97 := by
      cases r with
      | nil =>
        rw [List.map_cons, List.map_nil, Lib.join_one]
        rcases protoOk_cases hx with rfl | rfl | rfl <;> exact ⟨_, _, rfl, by decide⟩
      | cons y r =>
        rw [List.map_cons, List.map_cons, join_two]
        rcases protoOk_cases hx with rfl | rfl | rfl <;> exact ⟨_, _, rfl, by decide⟩
    obtain ⟨y, ys, h4, h5⟩ := h3
    rw [h4] at e
    injection e with e _
    exact h5 e
def protosT (l : List Nat) : List UInt8 := if l = [] then W_any.data.toList else Lib.join (l.map protoT) [44]
theorem protosP_back {l : List Nat} (h : rising 0 l = true) (hp : ∀ x ∈ l, protoOk x = true) : protosP (ofL (protosT l)) = some l := by
  unfold protosP protosT
  by_cases e : l = []
  · subst e; rw [if_pos rfl, ofL_back, if_pos rfl]
  · rw [if_neg e, if_neg (join_protos_ne e hp), ofL_toList, split1_join (by simpa using e) (by
      intro x hx
      obtain ⟨y, _, rfl⟩ := List.mem_map.1 hx
      exact protoT_no44 y)]
    exact protosGo_back l 0 h hp
theorem selP_ne {w : ByteArray} {s : Sel} (h : selP w = some s) : w.data.toList ≠ [] := by
  intro e
  have : w = ByteArray.empty := by
    have := ofL_back w
    rw [e] at this
    exact this.symm
  subst this
  revert h
  have : selP ByteArray.empty = none := by decide +kernel
  rw [this]
  intro h
  cases h
end Go.Proofs.YtbiglifngfgffaaGreatDoor

/- Selectors and words: the plain law. -/
namespace Go.Proofs.YtbiglifngfgffaaGreatDoor
open Go.RowKit

/- A selector's word is the selector's text. -/
theorem cut_one (s : List UInt8) (c : UInt8) : (c ∉ s ∧ Lib.cut s [c] = (s, [], false)) ∨ (∃ x y, s = x ++ c :: y ∧ c ∉ x ∧ Lib.cut s [c] = (x, y, true)) := by
  by_cases h : c ∈ s
  · right
    obtain ⟨x, y, e, hx⟩ := List.eq_append_cons_of_mem h
    exact ⟨x, y, e, hx, by rw [e]; exact cut_one_hit y hx⟩
  · exact Or.inl ⟨h, cut_one_none h⟩
theorem preadL_nil' : preadL [] = none := by rfl
inductive SelIs (w : ByteArray) (s : Sel) : Prop where
  | star (h1 : w = W_star) (h2 : s = ⟨1, ByteArray.empty, Pf.zero⟩)
  | named (k nm : List UInt8) (h0 : w.data.toList = k ++ 58 :: nm) (h1 : kindN k ≠ 6) (h2 : 0 < kindN k) (h3 : labelL nm = true) (h4 : s = ⟨kindN k, ofL nm, Pf.zero⟩)
  | net (k t : List UInt8) (n : Pf) (h0 : w.data.toList = k ++ 58 :: t) (h1 : kindN k = 6) (h2 : preadL t = some n) (h3 : s = ⟨6, ByteArray.empty, n⟩)
theorem selP_is {w : ByteArray} {s : Sel} (h : selP w = some s) : SelIs w s := by
  unfold selP at h
  split at h
  · next e => injection h with h; exact .star e h.symm
  · simp only at h
    rcases cut_one w.data.toList 58 with ⟨_, e⟩ | ⟨x, y, e0, _, e⟩
    · rw [e] at h
      simp only [preadL_nil'] at h
      split at h
      · cases h
      · split at h
        · next hh => exact absurd hh.2 (by decide)
        · cases h
    · rw [e] at h
      simp only at h
      split at h
      · next h6 =>
        cases hp : preadL y with
        | none => rw [hp] at h; cases h
        | some n =>
          rw [hp] at h
          injection h with h
          exact .net x y n e0 h6 hp h.symm
      · next h6 =>
        split at h
        · next hh => injection h with h; exact .named x y e0 h6 hh.1 hh.2 h.symm
        · cases h
theorem kindN_cases {k : List UInt8} (h : 0 < kindN k) : (kindN k = 2 ∧ k = W_user.data.toList) ∨ (kindN k = 3 ∧ k = W_group.data.toList) ∨ (kindN k = 4 ∧ k = W_tag.data.toList) ∨ (kindN k = 5 ∧ k = W_host.data.toList) ∨ (kindN k = 6 ∧ k = W_net.data.toList) := by
  have inj : ∀ b : ByteArray, ofL k = b → k = b.data.toList := fun b e => by rw [← e]; rfl
  unfold kindN at h ⊢
  split
  · next e => exact Or.inl ⟨rfl, inj _ e⟩
  · split
    · next e => exact Or.inr (Or.inl ⟨rfl, inj _ e⟩)
    · split
      · next e => exact Or.inr (Or.inr (Or.inl ⟨rfl, inj _ e⟩))
      · split
        · next e => exact Or.inr (Or.inr (Or.inr (Or.inl ⟨rfl, inj _ e⟩)))
        · split
          · next e => exact Or.inr (Or.inr (Or.inr (Or.inr ⟨rfl, inj _ e⟩)))
          · next e1 e2 e3 e4 e5 => rw [if_neg e1, if_neg e2, if_neg e3, if_neg e4, if_neg e5] at h; cases h
theorem selT_of {w : ByteArray} {s : Sel} (h : selP w = some s) : ofL (selT s) = w := by
  cases selP_is h with
  | star h1 h2 => subst h1 h2; rfl
  | named k nm h0 h1 h2 h3 h4 =>
    subst h4
    have e : w = ofL (k ++ 58 :: nm) := by rw [← h0, ofL_back]
    rw [e]
    unfold selT
    rcases kindN_cases h2 with ⟨e1, e2⟩ | ⟨e1, e2⟩ | ⟨e1, e2⟩ | ⟨e1, e2⟩ | ⟨e1, e2⟩
    · simp only [e1]; rw [e2]; rfl
    · simp only [e1]; rw [e2]; rfl
    · simp only [e1]; rw [e2]; rfl
    · simp only [e1]; rw [e2]; rfl
    · exact absurd e1 h1
  | net k t n h0 h1 h2 h3 =>
    subst h3
    have e : w = ofL (k ++ 58 :: t) := by rw [← h0, ofL_back]
    rw [e]
    rcases kindN_cases (show 0 < kindN k by omega) with ⟨e1, e2⟩ | ⟨e1, e2⟩ | ⟨e1, e2⟩ | ⟨e1, e2⟩ | ⟨e1, e2⟩
    · omega
    · omega
    · omega
    · omega
    · unfold selT
      rw [e2]
      simp only
      rw [(preadL_some h2).1]
      rfl
theorem selP_again {w : ByteArray} {s : Sel} (h : selP w = some s) : selP (ofL (selT s)) = some s := by rw [selT_of h]; exact h
/- What stands in the text of an address, of a prefix. -/
theorem join_mem {sep : List UInt8} : ∀ (xs : List (List UInt8)) (c : UInt8), c ∈ Lib.join xs sep → c ∈ sep ∨ ∃ x ∈ xs, c ∈ x := by
  intro xs
  induction xs with
  | nil => intro c hc; cases hc
  | cons x r ih =>
    intro c hc
    cases r with
    | nil => rw [Lib.join_one] at hc; exact Or.inr ⟨x, List.mem_cons_self .., hc⟩
    | cons y r =>
      rw [join_two] at hc
      rcases List.mem_append.1 hc with hc | hc
      · exact Or.inr ⟨x, List.mem_cons_self .., hc⟩
      · rcases List.mem_append.1 hc with hc | hc
        · exact Or.inl hc
        · rcases ih c hc with e | ⟨z, hz, hc⟩
          · exact Or.inl e
          · exact Or.inr ⟨z, List.mem_cons_of_mem _ hz, hc⟩
theorem textL_chars (a : Ad) {c : UInt8} (h : c ∈ textL a) : isHex c = true ∨ c = 46 ∨ c = 58 := by
  unfold textL at h
  split at h
  · cases h
  · split at h
    · rcases join_mem _ _ h with e | ⟨x, hx, hc⟩
      · exact Or.inr (Or.inl (by simpa [dot] using e))
      · obtain ⟨y, _, rfl⟩ := List.mem_map.1 hx
        exact Or.inl (decL_is y c hc)
    · rcases text6_mem _ _ h with h | h
      · exact Or.inl h
      · exact Or.inr (Or.inr h)
theorem ptext_chars (p : Pf) {c : UInt8} (h : c ∈ ptext p) : isHex c = true ∨ c = 46 ∨ c = 58 ∨ c = 47 := by
  unfold ptext at h
  split at h
  · rcases List.mem_append.1 h with h | h
    · rcases textL_chars _ h with h | h | h
      · exact Or.inl h
      · exact Or.inr (Or.inl h)
      · exact Or.inr (Or.inr (Or.inl h))
    · rcases List.mem_cons.1 h with h | h
      · exact Or.inr (Or.inr (Or.inr h))
      · exact Or.inl (decL_is _ c h)
  · cases h
theorem hex_not {c d : UInt8} (h : isHex c = true) (hd : isHex d = false) : c ≠ d := by
  rintro rfl
  rw [h] at hd
  cases hd
theorem solid_of {c : UInt8} (h : c ≠ 32 ∧ c ≠ 9 ∧ c ≠ 10) : blank c = false ∧ c ≠ 10 := by
  unfold blank
  rw [decide_eq_false h.1, decide_eq_false h.2.1]
  exact ⟨rfl, h.2.2⟩
theorem hex_solid {c : UInt8} (h : isHex c = true) : c ≠ 32 ∧ c ≠ 9 ∧ c ≠ 10 ∧ c ≠ 35 := ⟨hex_not h (by decide), hex_not h (by decide), hex_not h (by decide), hex_not h (by decide)⟩
theorem ptext_solid (p : Pf) {c : UInt8} (h : c ∈ ptext p) : c ≠ 32 ∧ c ≠ 9 ∧ c ≠ 10 ∧ c ≠ 35 := by
  rcases ptext_chars p h with h | rfl | rfl | rfl
  · exact hex_solid h
  · decide
  · decide
  · decide
theorem plain_of {w : List UInt8} (h : ∀ c ∈ w, c ≠ 35) : plainWord w = true := by
  cases w with
  | nil => rfl
  | cons c r => exact decide_eq_true (h c (List.mem_cons_self ..))
theorem word_solid {w : List UInt8} (h0 : w ≠ []) (h : ∀ c ∈ w, c ≠ 32 ∧ c ≠ 9 ∧ c ≠ 10 ∧ c ≠ 35) : Word w :=
  ⟨h0, fun c hc => solid_of ⟨(h c hc).1, (h c hc).2.1, (h c hc).2.2.1⟩, plain_of fun c hc => (h c hc).2.2.2⟩
theorem ptext_word {p : Pf} (h : pmay p = true) : Word (ptext p) := word_solid (ptext_ne h) fun _ hc => ptext_solid p hc
theorem port_word (x : Nat × Nat) : Word (portT x) := by
  unfold portT
  refine word_solid (by simp [decL_ne]) fun c hc => ?_
  rcases List.mem_append.1 hc with h | h
  · exact hex_solid (decL_is _ c h)
  · split at h
    · rcases List.mem_cons.1 h with rfl | h
      · decide
      · exact hex_solid (decL_is _ c h)
    · cases h
theorem label_solid {s : List UInt8} (h : labelL s = true) {c : UInt8} (hc : c ∈ s) : c ≠ 32 ∧ c ≠ 9 ∧ c ≠ 10 ∧ c ≠ 35 :=
  have := (label_chars h).2 c hc
  ⟨labc_not this (by decide), labc_not this (by decide), labc_not this (by decide), labc_not this (by decide)⟩
theorem sel_word {s : Sel} (h : selP (ofL (selT s)) = some s) : Word (selT s) := by
  have h0 : selT s ≠ [] := selP_ne h
  refine word_solid h0 fun c hc => ?_
  have key : ∀ k nm : List UInt8, 0 < kindN k → (∀ d ∈ nm, d ≠ 32 ∧ d ≠ 9 ∧ d ≠ 10 ∧ d ≠ 35) → (ofL (selT s)).data.toList = k ++ 58 :: nm → c ≠ 32 ∧ c ≠ 9 ∧ c ≠ 10 ∧ c ≠ 35 := by
    intro k nm hk hn e
    rw [ofL_toList] at e
    rw [e] at hc
    rcases List.mem_append.1 hc with hc | hc
    · have : ∀ d ∈ k, d ≠ 32 ∧ d ≠ 9 ∧ d ≠ 10 ∧ d ≠ 35 := by
        rcases kindN_cases hk with ⟨_, e⟩ | ⟨_, e⟩ | ⟨_, e⟩ | ⟨_, e⟩ | ⟨_, e⟩ <;> (rw [e]; decide)
      exact this c hc
    · rcases List.mem_cons.1 hc with rfl | hc
      · decide
      · exact hn c hc
  cases selP_is h with
  | star h1 h2 => subst h2; rw [List.mem_singleton.1 (show c ∈ [42] from hc)]; decide
  | named k nm h0 h1 h2 h3 h4 => exact key k nm h2 (fun d hd => label_solid h3 hd) h0
  | net k t n h0 h1 h2 h3 => exact key k t (by omega) (fun d hd => by rw [← (preadL_some h2).1] at hd; exact ptext_solid n hd) h0
theorem protos_word {l : List Nat} (h : ∀ x ∈ l, protoOk x = true) : Word (protosT l) := by
  unfold protosT
  split
  · exact word_solid (by decide) (by decide)
  · next e =>
    refine word_solid ?_ ?_
    · cases l with
      | nil => exact absurd rfl e
      | cons x r =>
        cases r with
        | nil => rw [List.map_cons, List.map_nil, Lib.join_one]; exact protoT_ne x
        | cons y r => rw [List.map_cons, List.map_cons, join_two]; simp [protoT_ne x]
    · intro c hc
      rcases join_mem _ _ hc with e | ⟨x, hx, hc⟩
      · rw [List.mem_singleton.1 e]; decide
      · obtain ⟨y, _, rfl⟩ := List.mem_map.1 hx
        have := protoT_solid y c hc
        have hb := this.1
        unfold blank at hb
        simp only [Bool.or_eq_false_iff, decide_eq_false_iff_not] at hb
        exact ⟨hb.1, hb.2, this.2.1, this.2.2⟩
end Go.Proofs.YtbiglifngfgffaaGreatDoor

/- Lines, back from their policy: the plain law. -/
namespace Go.Proofs.YtbiglifngfgffaaGreatDoor
open Go.RowKit

/- An accept that may stand. -/
structure AcOk (a : Ac) : Prop where
  rise : rising 0 a.protos = true
  protos : ∀ x ∈ a.protos, protoOk x = true
  src : ∀ s ∈ a.src, selP (ofL (selT s)) = some s
  dst : ∀ s ∈ a.dst, selP (ofL (selT s)) = some s
  src1 : 1 ≤ a.src.length
  src64 : a.src.length ≤ 64
  dst1 : 1 ≤ a.dst.length
  dst64 : a.dst.length ≤ 64
  ports : ∀ x ∈ a.ports, x.1 ≤ x.2 ∧ x.2 < 65536
  ports64 : a.ports.length ≤ 64
theorem aclT_eq (a : Ac) : (aclT a).map ofL = W_accept :: ofL (protosT a.protos) :: W_from :: (a.src.map (fun s => ofL (selT s)) ++ W_to :: (a.dst.map (fun s => ofL (selT s)) ++ if a.ports = [] then [] else W_ports :: a.ports.map fun x => ofL (portT x))) := by
  unfold aclT protosT
  simp only [List.map_append, List.map_cons, List.map_map, List.cons_append, List.nil_append, List.append_assoc]
  refine congr (congrArg List.cons (ofL_back _)) (congrArg _ (congr (congrArg List.cons (ofL_back _)) ?_))
  refine congrArg _ (congr (congrArg List.cons (ofL_back _)) (congrArg _ ?_))
  split
  · rfl
  · rw [List.map_cons, List.map_map, ofL_back]; rfl
theorem acceptP_back {a : Ac} {told : Nat} (h : AcOk a) (hl : told < 64) : ∃ L, acceptP ((aclT a).map ofL) told = .ok (a, L) ∧ ∀ y ∈ L, y.1 ∈ a.src ∨ y.1 ∈ a.dst := by
  rw [aclT_eq]
  obtain ⟨L1, e1, f1⟩ := selsGo_back selP_to (W_to :: (a.dst.map (fun s => ofL (selT s)) ++ if a.ports = [] then [] else W_ports :: a.ports.map fun x => ofL (portT x))) (Or.inr ⟨_, rfl⟩) a.src 3 0 h.src (by have := h.src64; omega) (by have := h.src1; omega)
  have ht : (if a.ports = [] then [] else W_ports :: a.ports.map fun x => ofL (portT x)) = [] ∨ ∃ r, (if a.ports = [] then [] else W_ports :: a.ports.map fun x => ofL (portT x)) = W_ports :: r := by
    split
    · exact Or.inl rfl
    · exact Or.inr ⟨_, rfl⟩
  have e2 := fun i => selsGo_back selP_ports _ ht a.dst i 0 h.dst (by have := h.dst64; omega) (by have := h.dst1; omega)
  unfold acceptP
  rw [if_neg (by omega)]
  simp only
  rw [protosP_back h.rise h.protos]
  simp only
  rw [if_neg (by simp), e1]
  simp only
  obtain ⟨L2, g1, g2⟩ := e2 _
  rw [g1]
  simp only
  have hm : ∀ y ∈ L1 ++ L2, y.1 ∈ a.src ∨ y.1 ∈ a.dst := by
    intro y hy
    rcases List.mem_append.1 hy with hy | hy
    · left; rw [← f1]; exact List.mem_map_of_mem hy
    · right; rw [← g2]; exact List.mem_map_of_mem hy
  by_cases hp : a.ports = []
  · simp only [hp, if_true]
    refine ⟨L1 ++ L2, ?_, hm⟩
    rw [f1, g2]
    obtain ⟨_, _, _, _⟩ := a
    simp only at hp
    rw [hp]
  · simp only [hp, if_false]
    refine ⟨L1 ++ L2, ?_, hm⟩
    rw [if_neg (by simpa using hp), portsGo_ok a.ports _ _ h.ports (by have := h.ports64; omega), f1, g2]
    rfl
/- The lines, one behind the other. -/
theorem distinct_mid {A B : List ByteArray} {x : ByteArray} (h : distinct (A ++ x :: B) = true) : x ∉ A := by
  induction A with
  | nil => simp
  | cons y r ih =>
    rw [List.cons_append, distinct] at h
    simp only [Bool.and_eq_true, Bool.not_eq_true', List.any_eq_false, decide_eq_true_eq] at h
    intro hm
    rcases List.mem_cons.1 hm with rfl | hm
    · exact h.1 x (by simp) rfl
    · exact ih h.2 hm
theorem hasN_false {l : List Nm} {s : ByteArray} (h : s ∉ l.map (·.name)) : hasN l s = false := by
  unfold hasN
  rw [List.any_eq_false]
  intro n hn
  rw [decide_eq_true_eq]
  intro e
  exact h (List.mem_map.2 ⟨n, hn, e⟩)
theorem hasH_false {l : List Hs} {s : ByteArray} (h : s ∉ l.map (·.name)) : hasH l s = false := by
  unfold hasH
  rw [List.any_eq_false]
  intro n hn
  rw [decide_eq_true_eq]
  intro e
  exact h (List.mem_map.2 ⟨n, hn, e⟩)
theorem nmT_map (w : ByteArray) (n : Nm) : (nmT w.data.toList n).map ofL = w :: n.name :: W_eq :: n.list := by
  unfold nmT
  simp only [List.cons_append, List.nil_append, List.map_cons, List.map_map]
  rw [ofL_back, ofL_back]
  refine congrArg _ (congrArg _ (congr (congrArg List.cons rfl) ?_))
  have : (ofL ∘ fun s : ByteArray => s.data.toList) = id := by funext s; exact ofL_back s
  rw [this, List.map_id]
theorem nm_words {w : List UInt8} {n : Nm} (hw : Word w) (h : NmOk n) : ∀ x ∈ nmT w n, Word x := by
  intro x hx
  unfold nmT at hx
  rcases List.mem_append.1 hx with hx | hx
  · simp only [List.mem_cons, List.not_mem_nil, or_false] at hx
    rcases hx with rfl | rfl | rfl
    · exact hw
    · exact label_word h.name
    · exact word_solid (by decide) (by decide)
  · obtain ⟨s, hs, rfl⟩ := List.mem_map.1 hx
    exact label_word (h.all s hs)
theorem w_group : Word W_group.data.toList := word_solid (by decide) (by decide)
theorem w_tag : Word W_tag.data.toList := word_solid (by decide) (by decide)
theorem w_host : Word W_host.data.toList := word_solid (by decide) (by decide)
theorem lines_groups : ∀ (l : List Nm) (n : Nat) (g0 t : List Nm) (h : List Hs) (a : List Ac) (u : List (Sel × Nat × Nat)) (rest : List (List UInt8)), (∀ x ∈ l, NmOk x) → (g0 ++ l).length ≤ 64 → distinct ((g0 ++ l).map (·.name)) = true →
    linesP (l.map (fun x => Lib.join (nmT W_group.data.toList x) [32]) ++ rest) n ⟨⟨g0, t, h, a⟩, u⟩ = linesP rest (n + l.length) ⟨⟨g0 ++ l, t, h, a⟩, u⟩ := by
  intro l
  induction l with
  | nil => intro n g0 t h a u rest _ _ _; simp
  | cons x r ih =>
    intro n g0 t h a u rest hk hl hd
    have hx := hk x (List.mem_cons_self ..)
    rw [List.length_append, List.length_cons] at hl
    have hnot : x.name ∉ g0.map (·.name) := by
      rw [List.map_append, List.map_cons] at hd
      exact distinct_mid hd
    rw [List.map_cons, List.cons_append, linesP, words_join (nm_words w_group hx), nmT_map]
    unfold lineP
    simp only
    rw [if_pos trivial, namedP_back W_group hx (by omega) (hasN_false hnot)]
    show linesP _ (n + 1) ⟨⟨g0 ++ [x], t, h, a⟩, u⟩ = _
    rw [ih (n + 1) (g0 ++ [x]) t h a u rest (fun y hy => hk y (List.mem_cons_of_mem _ hy)) (by simp; omega) (by simpa using hd)]
    rw [List.append_assoc, List.singleton_append, List.length_cons, show n + 1 + r.length = n + (r.length + 1) by omega]
theorem lines_tags : ∀ (l : List Nm) (n : Nat) (g0 t : List Nm) (h : List Hs) (a : List Ac) (u : List (Sel × Nat × Nat)) (rest : List (List UInt8)), (∀ x ∈ l, NmOk x) → (g0 ++ l).length ≤ 64 → distinct ((g0 ++ l).map (·.name)) = true →
    linesP (l.map (fun x => Lib.join (nmT W_tag.data.toList x) [32]) ++ rest) n ⟨⟨t, g0, h, a⟩, u⟩ = linesP rest (n + l.length) ⟨⟨t, g0 ++ l, h, a⟩, u⟩ := by
  intro l
  induction l with
  | nil => intro n g0 t h a u rest _ _ _; simp
  | cons x r ih =>
    intro n g0 t h a u rest hk hl hd
    have hx := hk x (List.mem_cons_self ..)
    rw [List.length_append, List.length_cons] at hl
    have hnot : x.name ∉ g0.map (·.name) := by
      rw [List.map_append, List.map_cons] at hd
      exact distinct_mid hd
    rw [List.map_cons, List.cons_append, linesP, words_join (nm_words w_tag hx), nmT_map]
    unfold lineP
    simp only
    rw [if_neg (by decide), if_pos trivial, namedP_back W_tag hx (by omega) (hasN_false hnot)]
    show linesP _ (n + 1) ⟨⟨t, g0 ++ [x], h, a⟩, u⟩ = _
    rw [ih (n + 1) (g0 ++ [x]) t h a u rest (fun y hy => hk y (List.mem_cons_of_mem _ hy)) (by simp; omega) (by simpa using hd)]
    rw [List.append_assoc, List.singleton_append, List.length_cons, show n + 1 + r.length = n + (r.length + 1) by omega]
structure HsOk (x : Hs) : Prop where
  name : labelB x.name = true
  may : pmay x.net = true
  ok : x.net.Ok
theorem hs_words {x : Hs} (h : HsOk x) : ∀ w ∈ hsT x, Word w := by
  intro w hw
  unfold hsT at hw
  simp only [List.mem_cons, List.not_mem_nil, or_false] at hw
  rcases hw with rfl | rfl | rfl | rfl
  · exact w_host
  · exact label_word h.name
  · exact word_solid (by decide) (by decide)
  · exact ptext_word h.may
theorem hsT_map (x : Hs) : (hsT x).map ofL = [W_host, x.name, W_eq, ofL (ptext x.net)] := by
  unfold hsT
  simp only [List.map_cons, List.map_nil]
  rw [ofL_back, ofL_back]
  rfl
theorem lines_hosts : ∀ (l : List Hs) (n : Nat) (h0 : List Hs) (g t : List Nm) (a : List Ac) (u : List (Sel × Nat × Nat)) (rest : List (List UInt8)), (∀ x ∈ l, HsOk x) → (h0 ++ l).length ≤ 64 → distinct ((h0 ++ l).map (·.name)) = true →
    linesP (l.map (fun x => Lib.join (hsT x) [32]) ++ rest) n ⟨⟨g, t, h0, a⟩, u⟩ = linesP rest (n + l.length) ⟨⟨g, t, h0 ++ l, a⟩, u⟩ := by
  intro l
  induction l with
  | nil => intro n h0 g t a u rest _ _ _; simp
  | cons x r ih =>
    intro n h0 g t a u rest hk hl hd
    have hx := hk x (List.mem_cons_self ..)
    rw [List.length_append, List.length_cons] at hl
    have hnot : x.name ∉ h0.map (·.name) := by
      rw [List.map_append, List.map_cons] at hd
      exact distinct_mid hd
    rw [List.map_cons, List.cons_append, linesP, words_join (hs_words hx), hsT_map]
    unfold lineP
    simp only
    rw [if_neg (by decide), if_neg (by decide), if_pos trivial, hostP_back W_host hx.name hx.ok hx.may (by omega) (hasH_false hnot)]
    show linesP _ (n + 1) ⟨⟨g, t, h0 ++ [x], a⟩, u⟩ = _
    rw [ih (n + 1) (h0 ++ [x]) g t a u rest (fun y hy => hk y (List.mem_cons_of_mem _ hy)) (by simp; omega) (by simpa using hd)]
    rw [List.append_assoc, List.singleton_append, List.length_cons, show n + 1 + r.length = n + (r.length + 1) by omega]
theorem ac_words {a : Ac} (h : AcOk a) : ∀ w ∈ aclT a, Word w := by
  intro w hw
  have e : aclT a = W_accept.data.toList :: protosT a.protos :: W_from.data.toList :: (a.src.map selT ++ W_to.data.toList :: (a.dst.map selT ++ if a.ports = [] then [] else W_ports.data.toList :: a.ports.map portT)) := by
    unfold aclT protosT
    simp
  rw [e] at hw
  simp only [List.mem_cons, List.mem_append] at hw
  rcases hw with rfl | rfl | rfl | hw | rfl | hw | hw
  · exact word_solid (by decide) (by decide)
  · exact protos_word h.protos
  · exact word_solid (by decide) (by decide)
  · obtain ⟨s, hs, rfl⟩ := List.mem_map.1 hw
    exact sel_word (h.src s hs)
  · exact word_solid (by decide) (by decide)
  · obtain ⟨s, hs, rfl⟩ := List.mem_map.1 hw
    exact sel_word (h.dst s hs)
  · split at hw
    · cases hw
    · rcases List.mem_cons.1 hw with rfl | hw
      · exact word_solid (by decide) (by decide)
      · obtain ⟨x, _, rfl⟩ := List.mem_map.1 hw
        exact port_word x
theorem lines_acls : ∀ (l : List Ac) (n : Nat) (a0 : List Ac) (g t : List Nm) (h : List Hs) (u : List (Sel × Nat × Nat)) (rest : List (List UInt8)), (∀ x ∈ l, AcOk x) → (a0 ++ l).length ≤ 64 →
    ∃ u', linesP (l.map (fun x => Lib.join (aclT x) [32]) ++ rest) n ⟨⟨g, t, h, a0⟩, u⟩ = linesP rest (n + l.length) ⟨⟨g, t, h, a0 ++ l⟩, u ++ u'⟩ ∧ ∀ y ∈ u', ∃ x ∈ l, y.1 ∈ x.src ∨ y.1 ∈ x.dst := by
  intro l
  induction l with
  | nil => intro n a0 g t h u rest _ _; exact ⟨[], by simp, fun y hy => by cases hy⟩
  | cons x r ih =>
    intro n a0 g t h u rest hk hl
    have hx := hk x (List.mem_cons_self ..)
    rw [List.length_append, List.length_cons] at hl
    obtain ⟨L, e, hL⟩ := acceptP_back (told := a0.length) hx (by omega)
    obtain ⟨u', e', hu'⟩ := ih (n + 1) (a0 ++ [x]) g t h (u ++ L.map fun y => (y.1, n, y.2)) rest (fun y hy => hk y (List.mem_cons_of_mem _ hy)) (by simp; omega)
    refine ⟨(L.map fun y => (y.1, n, y.2)) ++ u', ?_, ?_⟩
    · rw [List.map_cons, List.cons_append, linesP, words_join (ac_words hx)]
      have hh : lineP ⟨⟨g, t, h, a0⟩, u⟩ n ((aclT x).map ofL) = .ok ⟨⟨g, t, h, a0 ++ [x]⟩, u ++ L.map fun y => (y.1, n, y.2)⟩ := by
        have ew := aclT_eq x
        rw [ew]
        unfold lineP
        simp only
        rw [if_neg (by decide), if_neg (by decide), if_neg (by decide), if_pos trivial, ← ew, e]
        rfl
      rw [hh]
      simp only
      rw [e', List.append_assoc, List.singleton_append, List.length_cons, show n + 1 + r.length = n + (r.length + 1) by omega, List.append_assoc]
    · intro y hy
      rcases List.mem_append.1 hy with hy | hy
      · obtain ⟨z, hz, rfl⟩ := List.mem_map.1 hy
        exact ⟨x, List.mem_cons_self .., hL z hz⟩
      · obtain ⟨z, hz, h2⟩ := hu' y hy
        exact ⟨z, List.mem_cons_of_mem _ hz, h2⟩
end Go.Proofs.YtbiglifngfgffaaGreatDoor

/- A policy that is written is read as itself: the plain law. -/
namespace Go.Proofs.YtbiglifngfgffaaGreatDoor
open Go.RowKit

theorem split_text : ∀ (L : List (List (List UInt8))), (∀ l ∈ L, ∀ w ∈ l, Word w) → split1 10 ((L.map lineT).flatten) = L.map (fun l => Lib.join l [32]) ++ [[]] := by
  intro L
  induction L with
  | nil => intro _; rfl
  | cons l r ih =>
    intro h
    rw [List.map_cons, List.flatten_cons]
    unfold lineT
    rw [List.append_assoc, List.singleton_append, split1_hit _ (join_no10 l (h l (List.mem_cons_self ..)))]
    have := ih fun x hx => h x (List.mem_cons_of_mem _ hx)
    unfold lineT at this
    rw [this]
    rfl
/- What a program's policy always keeps. -/
structure PoOk (p : Po) : Prop where
  hosts : ∀ h ∈ p.hosts, h.net.Ok
  ports : ∀ a ∈ p.acls, ∀ x ∈ a.ports, x.1 < 65536 ∧ x.2 < 65536
theorem mayNm_ok {l : List Nm} (h : mayNm l = true) : (∀ n ∈ l, NmOk n) ∧ l.length ≤ 64 ∧ distinct (l.map (·.name)) = true := by
  unfold mayNm at h
  simp only [Bool.and_eq_true, decide_eq_true_eq] at h
  obtain ⟨⟨h1, h2⟩, h3⟩ := h
  refine ⟨fun n hn => ?_, h2, h3⟩
  have := List.all_eq_true.1 h1 n hn
  simp only [Bool.and_eq_true, decide_eq_true_eq] at this
  exact ⟨this.1.1.1, this.1.1.2, this.1.2, fun s hs => List.all_eq_true.1 this.2 s hs⟩
theorem maySels_ok {p : Po} {l : List Sel} (h : maySels p l = true) : (∀ s ∈ l, selP (ofL (selT s)) = some s ∧ knownP p s = true) ∧ 1 ≤ l.length ∧ l.length ≤ 64 := by
  unfold maySels at h
  simp only [Bool.and_eq_true, decide_eq_true_eq] at h
  obtain ⟨⟨h1, h2⟩, h3⟩ := h
  refine ⟨fun s hs => ?_, h2, h3⟩
  have := List.all_eq_true.1 h1 s hs
  simpa only [Bool.and_eq_true, decide_eq_true_eq] using this
theorem mayAc_ok {p : Po} {a : Ac} (h : mayAc p a = true) (hp : ∀ x ∈ a.ports, x.1 < 65536 ∧ x.2 < 65536) : AcOk a ∧ ∀ s, s ∈ a.src ∨ s ∈ a.dst → knownP p s = true := by
  unfold mayAc at h
  simp only [Bool.and_eq_true, decide_eq_true_eq] at h
  obtain ⟨⟨⟨⟨⟨h1, h2⟩, h3⟩, h4⟩, h5⟩, h6⟩ := h
  obtain ⟨s1, s2, s3⟩ := maySels_ok h5
  obtain ⟨d1, d2, d3⟩ := maySels_ok h6
  refine ⟨⟨h3, fun x hx => List.all_eq_true.1 h2 x hx, fun s hs => (s1 s hs).1, fun s hs => (d1 s hs).1, s2, s3, d2, d3, fun x hx => ⟨of_decide_eq_true (List.all_eq_true.1 h1 x hx), (hp x hx).2⟩, h4⟩, ?_⟩
  rintro s (hs | hs)
  · exact (s1 s hs).2
  · exact (d1 s hs).2
theorem mayP_ok {p : Po} (h : mayP p = true) : mayNm p.groups = true ∧ mayNm p.tags = true ∧ p.hosts.length ≤ 64 ∧ p.acls.length ≤ 64 ∧ (∀ x ∈ p.hosts, labelB x.name = true ∧ pmay x.net = true) ∧ (∀ a ∈ p.acls, mayAc p a = true) ∧ distinct (p.hosts.map (·.name)) = true := by
  unfold mayP at h
  simp only [Bool.and_eq_true, decide_eq_true_eq] at h
  obtain ⟨⟨⟨⟨⟨⟨h1, h2⟩, h3⟩, h4⟩, h5⟩, h6⟩, h7⟩ := h
  refine ⟨h1, h2, h3, h4, fun x hx => ?_, fun a ha => List.all_eq_true.1 h6 a ha, h7⟩
  have := List.all_eq_true.1 h5 x hx
  simpa only [Bool.and_eq_true] using this
/- A POLICY THAT IS WRITTEN IS READ AS ITSELF. -/
theorem back_text {p : Po} (ok : PoOk p) (hm : mayP p = true) (hl : (textP p).length ≤ 8192) : parseP (textP p) = (p, (0, 0, 0)) := by
  obtain ⟨m1, m2, m3, m4, m5, m6, m7⟩ := mayP_ok hm
  obtain ⟨g1, g2, g3⟩ := mayNm_ok m1
  obtain ⟨t1, t2, t3⟩ := mayNm_ok m2
  have hh : ∀ x ∈ p.hosts, HsOk x := fun x hx => ⟨(m5 x hx).1, (m5 x hx).2, ok.hosts x hx⟩
  have ha : ∀ x ∈ p.acls, AcOk x := fun x hx => (mayAc_ok (m6 x hx) (ok.ports x hx)).1
  have hw : ∀ l ∈ linesT p, ∀ w ∈ l, Word w := by
    intro l hl
    unfold linesT at hl
    simp only [List.mem_append, List.mem_map] at hl
    rcases hl with ((⟨x, hx, rfl⟩ | ⟨x, hx, rfl⟩) | ⟨x, hx, rfl⟩) | ⟨x, hx, rfl⟩
    · exact nm_words w_group (g1 x hx)
    · exact nm_words w_tag (t1 x hx)
    · exact hs_words (hh x hx)
    · exact ac_words (ha x hx)
  have hs := split_text (linesT p) hw
  unfold parseP
  rw [if_neg (by omega), show split1 10 (textP p) = _ from hs]
  obtain ⟨g, t, h, a⟩ := p
  have e : (linesT ⟨g, t, h, a⟩).map (fun l => Lib.join l [32]) ++ [[]] = g.map (fun x => Lib.join (nmT W_group.data.toList x) [32]) ++ (t.map (fun x => Lib.join (nmT W_tag.data.toList x) [32]) ++ (h.map (fun x => Lib.join (hsT x) [32]) ++ (a.map (fun x => Lib.join (aclT x) [32]) ++ [[]]))) := by
    unfold linesT
    simp [List.map_append, List.map_map, Function.comp_def]
  rw [e]
  unfold Po.zero
  rw [lines_groups g 1 [] [] [] [] [] _ g1 (by simpa using g2) (by simpa using g3), List.nil_append, lines_tags t _ [] g [] [] [] _ t1 (by simpa using t2) (by simpa using t3), List.nil_append, lines_hosts h _ [] g t [] [] _ hh (by simpa using m3) (by simpa using m7), List.nil_append]
  obtain ⟨u, e2, hu⟩ := lines_acls a (1 + g.length + t.length + h.length) [] g t h [] [[]] ha (by simpa using m4)
  rw [e2, List.nil_append, List.nil_append]
  have e3 : ∀ n, linesP [[]] n ⟨⟨g, t, h, a⟩, u⟩ = .ok ⟨⟨g, t, h, a⟩, u⟩ := fun n => rfl
  rw [e3]
  simp only
  have hnone : u.find? (fun x => !knownP ⟨g, t, h, a⟩ x.1) = none := by
    rw [List.find?_eq_none]
    intro y hy
    obtain ⟨x, hx, h2⟩ := hu y hy
    rw [(mayAc_ok (m6 x hx) (ok.ports x hx)).2 _ h2]
    decide
  rw [hnone]
end Go.Proofs.YtbiglifngfgffaaGreatDoor

/- A text that is read is a policy that may be: the plain law. -/
namespace Go.Proofs.YtbiglifngfgffaaGreatDoor
open Go.RowKit

theorem map_ok {α β ε : Type} {f : α → β} {x : Except ε α} {y : β} (h : x.map f = .ok y) : ∃ v, x = .ok v ∧ f v = y := by
  cases x with
  | error e => cases h
  | ok v => injection h with h; exact ⟨v, rfl, h⟩
theorem map_err {α β ε : Type} {f : α → β} {x : Except ε α} {e : ε} (h : x.map f = .error e) : x = .error e := by
  cases x with
  | error e' => injection h with h; rw [h]
  | ok v => cases h
/- What is read may be. -/
theorem namesGo_spec : ∀ (l : List ByteArray) (i c : Nat) (r : List ByteArray), namesGo l i c = .ok r → r = l ∧ (∀ s ∈ l, labelB s = true) ∧ (l ≠ [] → c + l.length ≤ 64) := by
  intro l
  induction l with
  | nil => intro i c r h; injection h with h; exact ⟨h.symm, fun s hs => (by cases hs), fun h => absurd rfl h⟩
  | cons s t ih =>
    intro i c r h
    rw [namesGo] at h
    split at h
    · cases h
    next h1 =>
    split at h
    · cases h
    next h2 =>
    cases hr : namesGo t (i + 1) (c + 1) with
    | error e => rw [hr] at h; cases h
    | ok q =>
      rw [hr] at h
      injection h with h
      obtain ⟨e1, e2, e3⟩ := ih _ _ _ hr
      subst e1
      refine ⟨h.symm, ?_, fun _ => ?_⟩
      · intro x hx
        rcases List.mem_cons.1 hx with rfl | hx
        · simpa using h1
        · exact e2 x hx
      · rw [List.length_cons]
        by_cases e : q = []
        · subst e; simp; omega
        · have := e3 e; omega
theorem namedP_spec {ws : List ByteArray} {told : List Nm} {n : Nm} (h : namedP ws told = .ok n) : NmOk n ∧ told.length < 64 ∧ hasN told n.name = false := by
  unfold namedP at h
  split at h
  · cases h
  next h0 =>
  split at h
  · next w nm r =>
    split at h
    · cases h
    next h1 =>
    split at h
    · cases h
    next h2 =>
    split at h
    · next e r' =>
      split at h
      · cases h
      next h3 =>
      split at h
      · cases h
      next h4 =>
      cases hr : namesGo r' 3 0 with
      | error e => rw [hr] at h; cases h
      | ok q =>
        rw [hr] at h
        injection h with h
        obtain ⟨e1, e2, e3⟩ := namesGo_spec _ _ _ _ hr
        subst e1 h
        have hl := e3 h4
        refine ⟨⟨by simpa using h1, ?_, by simpa using hl, e2⟩, by omega, by simpa using h2⟩
        cases q with
        | nil => exact absurd rfl h4
        | cons _ _ => simp
    · cases h
  · cases h
theorem hostP_spec {ws : List ByteArray} {told : List Hs} {x : Hs} (h : hostP ws told = .ok x) : HsOk x ∧ told.length < 64 ∧ hasH told x.name = false := by
  unfold hostP at h
  split at h
  · cases h
  next h0 =>
  split at h
  · next w nm r =>
    split at h
    · cases h
    next h1 =>
    split at h
    · cases h
    next h2 =>
    split at h
    · split at h
      · cases h
      · split at h
        · cases h
        · next t r'' =>
          split at h
          · cases h
          · next n hn =>
            split at h
            · cases h
            · injection h with h
              subst h
              obtain ⟨_, p2, p3⟩ := preadL_some hn
              exact ⟨⟨by simpa using h1, p3, p2⟩, by omega, by simpa using h2⟩
    · cases h
  · cases h
theorem protoN_ok {w : List UInt8} (h : protoN w ≠ 0) : protoOk (protoN w) = true := by
  unfold protoN at h ⊢
  split
  · rfl
  · split
    · rfl
    · split
      · rfl
      · next h1 h2 h3 => rw [if_neg h1, if_neg h2, if_neg h3] at h; exact absurd rfl h
theorem protosGo_spec : ∀ (l : List (List UInt8)) (k : Nat) (r : List Nat), protosGo k l = some r → rising k r = true ∧ ∀ x ∈ r, protoOk x = true := by
  intro l
  induction l with
  | nil => intro k r h; injection h with h; subst h; exact ⟨rfl, fun x hx => by cases hx⟩
  | cons w t ih =>
    intro k r h
    rw [protosGo] at h
    split at h
    · cases h
    next h1 =>
    cases hr : protosGo (protoN w) t with
    | none => rw [hr] at h; cases h
    | some q =>
      rw [hr] at h
      injection h with h
      subst h
      obtain ⟨e1, e2⟩ := ih _ _ hr
      refine ⟨?_, ?_⟩
      · unfold rising
        rw [e1, decide_eq_true (by omega)]
        rfl
      · intro x hx
        rcases List.mem_cons.1 hx with rfl | hx
        · exact protoN_ok (by omega)
        · exact e2 x hx
theorem protosP_spec {w : ByteArray} {r : List Nat} (h : protosP w = some r) : rising 0 r = true ∧ ∀ x ∈ r, protoOk x = true := by
  unfold protosP at h
  split at h
  · injection h with h; subst h; exact ⟨rfl, fun x hx => by cases hx⟩
  · exact protosGo_spec _ _ _ h
theorem selsGo_spec {en : ByteArray} : ∀ (l : List ByteArray) (i c : Nat) (L : List (Sel × Nat)) (t : List ByteArray), selsGo en l i c = .ok (L, t) → (∀ y ∈ L, selP (ofL (selT y.1)) = some y.1) ∧ (L ≠ [] → c + L.length ≤ 64) ∧ (c = 0 → L ≠ []) := by
  intro l
  induction l with
  | nil =>
    intro i c L t h
    rw [selsGo] at h
    split at h
    · cases h
    next h1 =>
    injection h with h
    injection h with h2 h3
    subst h2
    exact ⟨fun y hy => (by cases hy), fun h => absurd rfl h, fun h => absurd h h1⟩
  | cons w r ih =>
    intro i c L t h
    rw [selsGo] at h
    split at h
    · next h1 =>
      injection h with h
      injection h with h2 h3
      subst h2
      exact ⟨fun y hy => (by cases hy), fun h => absurd rfl h, fun h => absurd h h1.2⟩
    · split at h
      · cases h
      · next s hs =>
        split at h
        · cases h
        next h2 =>
        cases hr : selsGo en r (i + 1) (c + 1) with
        | error e => rw [hr] at h; cases h
        | ok q =>
          rw [hr] at h
          injection h with h
          injection h with h3 h4
          subst h3
          obtain ⟨e1, e2, _⟩ := ih _ _ _ _ hr
          refine ⟨?_, fun _ => ?_, fun _ => by simp⟩
          · intro y hy
            rcases List.mem_cons.1 hy with rfl | hy
            · exact selP_again hs
            · exact e1 y hy
          · rw [List.length_cons]
            by_cases e : q.1 = []
            · rw [e]; simp; omega
            · have := e2 e; omega
theorem portN_lt {s : List UInt8} {n : Nat} (h : portN s = some n) : n < 65536 := by
  unfold portN at h
  cases hn : num1 10 65536 s with
  | none => rw [hn] at h; cases h
  | some m =>
    rw [hn] at h
    simp only [Option.bind_some] at h
    split at h
    · injection h with h; subst h; exact num1_lt hn
    · cases h
theorem portsP_spec {w : ByteArray} {x : Nat × Nat} (h : portsP w = some x) : x.1 ≤ x.2 ∧ x.2 < 65536 := by
  unfold portsP at h
  simp only at h
  split at h
  · next a b ha hb =>
    split at h
    · next hle => injection h with h; subst h; exact ⟨hle, portN_lt hb⟩
    · cases h
  · cases h
theorem portsGo_spec : ∀ (l : List ByteArray) (i c : Nat) (r : List (Nat × Nat)), portsGo l i c = .ok r → (∀ x ∈ r, x.1 ≤ x.2 ∧ x.2 < 65536) ∧ (r ≠ [] → c + r.length ≤ 64) := by
  intro l
  induction l with
  | nil => intro i c r h; injection h with h; subst h; exact ⟨fun x hx => (by cases hx), fun h => absurd rfl h⟩
  | cons w t ih =>
    intro i c r h
    rw [portsGo] at h
    split at h
    · cases h
    · next x hx =>
      split at h
      · cases h
      next h2 =>
      cases hr : portsGo t (i + 1) (c + 1) with
      | error e => rw [hr] at h; cases h
      | ok q =>
        rw [hr] at h
        injection h with h
        subst h
        obtain ⟨e1, e2⟩ := ih _ _ _ hr
        refine ⟨?_, fun _ => ?_⟩
        · intro y hy
          rcases List.mem_cons.1 hy with rfl | hy
          · exact portsP_spec hx
          · exact e1 y hy
        · rw [List.length_cons]
          by_cases e : q = []
          · rw [e]; simp; omega
          · have := e2 e; omega
theorem acceptP_spec {ws : List ByteArray} {told : Nat} {a : Ac} {L : List (Sel × Nat)} (h : acceptP ws told = .ok (a, L)) : AcOk a ∧ told < 64 ∧ (∀ s, s ∈ a.src ∨ s ∈ a.dst → ∃ y ∈ L, y.1 = s) := by
  unfold acceptP at h
  split at h
  · cases h
  next h0 =>
  split at h
  · split at h
    · cases h
    next ps hps =>
    split at h
    · cases h
    · split at h
      · cases h
      · split at h
        · cases h
        next src r2 hsrc =>
        split at h
        · cases h
        · split at h
          · cases h
          next dst r4 hdst =>
          obtain ⟨p1, p2⟩ := protosP_spec hps
          obtain ⟨s1, s2, s3⟩ := selsGo_spec _ _ _ _ _ hsrc
          obtain ⟨d1, d2, d3⟩ := selsGo_spec _ _ _ _ _ hdst
          have sl := s2 (s3 rfl)
          have dl := d2 (d3 rfl)
          have sp : 1 ≤ src.length := by
            cases src with
            | nil => exact absurd rfl (s3 rfl)
            | cons _ _ => simp
          have dp : 1 ≤ dst.length := by
            cases dst with
            | nil => exact absurd rfl (d3 rfl)
            | cons _ _ => simp
          have fin : ∀ po : List (Nat × Nat), (∀ x ∈ po, x.1 ≤ x.2 ∧ x.2 < 65536) → po.length ≤ 64 → AcOk ⟨ps, src.map (·.1), dst.map (·.1), po⟩ := by
            intro po h1 h2
            refine ⟨p1, p2, ?_, ?_, by simpa using sp, by simp; omega, by simpa using dp, by simp; omega, h1, h2⟩
            · intro s hs
              obtain ⟨y, hy, rfl⟩ := List.mem_map.1 hs
              exact s1 y hy
            · intro s hs
              obtain ⟨y, hy, rfl⟩ := List.mem_map.1 hs
              exact d1 y hy
          have cov : ∀ s, s ∈ src.map (·.1) ∨ s ∈ dst.map (·.1) → ∃ y ∈ src ++ dst, y.1 = s := by
            rintro s (hs | hs)
            · obtain ⟨y, hy, rfl⟩ := List.mem_map.1 hs
              exact ⟨y, List.mem_append_left _ hy, rfl⟩
            · obtain ⟨y, hy, rfl⟩ := List.mem_map.1 hs
              exact ⟨y, List.mem_append_right _ hy, rfl⟩
          split at h
          · injection h with h
            injection h with h1 h2
            subst h1 h2
            exact ⟨fin [] (fun x hx => (by cases hx)) (by simp), by omega, cov⟩
          · next w r5 =>
            split at h
            · cases h
            · obtain ⟨po, hg, hy⟩ := map_ok h
              injection hy with h1 h2
              subst h1 h2
              obtain ⟨q1, q2⟩ := portsGo_spec _ _ _ _ hg
              refine ⟨fin po q1 ?_, by omega, cov⟩
              by_cases e : po = []
              · subst e; simp
              · have := q2 e; omega
  · cases h
structure BagOk (b : Bag) : Prop where
  groups : ∀ n ∈ b.p.groups, NmOk n
  groups64 : b.p.groups.length ≤ 64
  groupsD : distinct (b.p.groups.map (·.name)) = true
  tags : ∀ n ∈ b.p.tags, NmOk n
  tags64 : b.p.tags.length ≤ 64
  tagsD : distinct (b.p.tags.map (·.name)) = true
  hosts : ∀ x ∈ b.p.hosts, HsOk x
  hosts64 : b.p.hosts.length ≤ 64
  hostsD : distinct (b.p.hosts.map (·.name)) = true
  acls : ∀ a ∈ b.p.acls, AcOk a ∧ ∀ s, s ∈ a.src ∨ s ∈ a.dst → ∃ u ∈ b.used, u.1 = s
  acls64 : b.p.acls.length ≤ 64
theorem distinct_snoc : ∀ {A : List ByteArray} {x : ByteArray}, distinct A = true → x ∉ A → distinct (A ++ [x]) = true := by
  intro A
  induction A with
  | nil => intro x _ _; rfl
  | cons y r ih =>
    intro x h hx
    rw [List.cons_append, distinct]
    rw [distinct] at h
    simp only [Bool.and_eq_true, Bool.not_eq_true', List.any_eq_false, decide_eq_true_eq] at h ⊢
    refine ⟨fun t ht => ?_, ih h.2 fun e => hx (List.mem_cons_of_mem _ e)⟩
    rcases List.mem_append.1 ht with ht | ht
    · exact h.1 t ht
    · rw [List.mem_singleton.1 ht]
      rintro rfl
      exact hx (List.mem_cons_self ..)
theorem hasN_not {l : List Nm} {s : ByteArray} (h : hasN l s = false) : s ∉ l.map (·.name) := by
  intro e
  obtain ⟨n, hn, rfl⟩ := List.mem_map.1 e
  unfold hasN at h
  rw [List.any_eq_false] at h
  exact h n hn (by simp)
theorem hasH_not {l : List Hs} {s : ByteArray} (h : hasH l s = false) : s ∉ l.map (·.name) := by
  intro e
  obtain ⟨n, hn, rfl⟩ := List.mem_map.1 e
  unfold hasH at h
  rw [List.any_eq_false] at h
  exact h n hn (by simp)
theorem mem_snoc {α : Type} {P : α → Prop} {l : List α} {x : α} (h : ∀ y ∈ l, P y) (hx : P x) : ∀ y ∈ l ++ [x], P y := by
  intro y hy
  rcases List.mem_append.1 hy with hy | hy
  · exact h y hy
  · rw [List.mem_singleton.1 hy]; exact hx
theorem lineP_ok {b b' : Bag} {n : Nat} {ws : List ByteArray} (hb : BagOk b) (h : lineP b n ws = .ok b') : BagOk b' := by
  unfold lineP at h
  split at h
  · injection h with h; subst h; exact hb
  · split at h
    · generalize hx : namedP _ b.p.groups = r at h
      cases r with
      | error e => cases h
      | ok x =>
        injection h with h
        subst h
        obtain ⟨e1, e2, e3⟩ := namedP_spec hx
        exact { hb with groups := mem_snoc hb.groups e1, groups64 := by simp; omega, groupsD := by rw [List.map_append]; exact distinct_snoc hb.groupsD (hasN_not e3) }
    · split at h
      · generalize hx : namedP _ b.p.tags = r at h
        cases r with
        | error e => cases h
        | ok x =>
          injection h with h
          subst h
          obtain ⟨e1, e2, e3⟩ := namedP_spec hx
          exact { hb with tags := mem_snoc hb.tags e1, tags64 := by simp; omega, tagsD := by rw [List.map_append]; exact distinct_snoc hb.tagsD (hasN_not e3) }
      · split at h
        · generalize hx : hostP _ b.p.hosts = r at h
          cases r with
          | error e => cases h
          | ok x =>
            injection h with h
            subst h
            obtain ⟨e1, e2, e3⟩ := hostP_spec hx
            exact { hb with hosts := mem_snoc hb.hosts e1, hosts64 := by simp; omega, hostsD := by rw [List.map_append]; exact distinct_snoc hb.hostsD (hasH_not e3) }
        · split at h
          · generalize hx : acceptP _ b.p.acls.length = r at h
            cases r with
            | error e => cases h
            | ok x =>
              injection h with h
              subst h
              obtain ⟨a, L⟩ := x
              obtain ⟨e1, e2, e3⟩ := acceptP_spec hx
              refine { hb with acls := mem_snoc (fun a ha => ?_) ?_, acls64 := by simp; omega }
              · obtain ⟨q1, q2⟩ := hb.acls a ha
                refine ⟨q1, fun s hs => ?_⟩
                obtain ⟨u, hu, hus⟩ := q2 s hs
                exact ⟨u, List.mem_append_left _ hu, hus⟩
              · refine ⟨e1, fun s hs => ?_⟩
                obtain ⟨y, hy, hys⟩ := e3 s hs
                exact ⟨(y.1, n, y.2), List.mem_append_right _ (List.mem_map.2 ⟨y, hy, rfl⟩), hys⟩
          · cases h
theorem linesP_ok : ∀ (l : List (List UInt8)) (n : Nat) (b b' : Bag), BagOk b → linesP l n b = .ok b' → BagOk b' := by
  intro l
  induction l with
  | nil => intro n b b' hb h; injection h with h; subst h; exact hb
  | cons x r ih =>
    intro n b b' hb h
    rw [linesP] at h
    split at h
    · cases h
    · next b2 h2 => exact ih _ _ _ (lineP_ok hb h2) h
theorem bag_zero : BagOk ⟨Po.zero, []⟩ := ⟨fun x hx => (by cases hx), by decide, rfl, fun x hx => (by cases hx), by decide, rfl, fun x hx => (by cases hx), by decide, rfl, fun x hx => (by cases hx), by decide⟩
theorem err_ne {k i : Nat} {e : Bad} {α : Type} (h : (Except.error (k, i) : Except Bad α) = .error e) (hk : k ≠ 0) : e.1 ≠ 0 := by
  injection h with h
  rw [← h]
  exact hk
theorem namesGo_err : ∀ (l : List ByteArray) (i c : Nat) (e : Bad), namesGo l i c = .error e → e.1 ≠ 0 := by
  intro l
  induction l with
  | nil => intro i c e h; cases h
  | cons s t ih =>
    intro i c e h
    rw [namesGo] at h
    split at h
    · exact err_ne h (by decide)
    · split at h
      · exact err_ne h (by decide)
      · exact ih _ _ _ (map_err h)
theorem selsGo_err {en : ByteArray} : ∀ (l : List ByteArray) (i c : Nat) (e : Bad), selsGo en l i c = .error e → e.1 ≠ 0 := by
  intro l
  induction l with
  | nil =>
    intro i c e h
    rw [selsGo] at h
    split at h
    · exact err_ne h (by decide)
    · cases h
  | cons s t ih =>
    intro i c e h
    rw [selsGo] at h
    split at h
    · cases h
    · split at h
      · exact err_ne h (by decide)
      · split at h
        · exact err_ne h (by decide)
        · exact ih _ _ _ (map_err h)
theorem portsGo_err : ∀ (l : List ByteArray) (i c : Nat) (e : Bad), portsGo l i c = .error e → e.1 ≠ 0 := by
  intro l
  induction l with
  | nil => intro i c e h; cases h
  | cons s t ih =>
    intro i c e h
    rw [portsGo] at h
    split at h
    · exact err_ne h (by decide)
    · split at h
      · exact err_ne h (by decide)
      · exact ih _ _ _ (map_err h)
theorem namedP_err {ws : List ByteArray} {told : List Nm} {e : Bad} (h : namedP ws told = .error e) : e.1 ≠ 0 := by
  unfold namedP at h
  repeat' split at h
  all_goals first | exact err_ne h (by decide) | exact namesGo_err _ _ _ _ (map_err h)
theorem hostP_err {ws : List ByteArray} {told : List Hs} {e : Bad} (h : hostP ws told = .error e) : e.1 ≠ 0 := by
  unfold hostP at h
  repeat' split at h
  all_goals first | exact err_ne h (by decide) | cases h
theorem acceptP_err {ws : List ByteArray} {told : Nat} {e : Bad} (h : acceptP ws told = .error e) : e.1 ≠ 0 := by
  unfold acceptP at h
  repeat' split at h
  all_goals first
    | exact err_ne h (by decide)
    | exact portsGo_err _ _ _ _ (map_err h)
    | (cases h; exact selsGo_err _ _ _ _ (by assumption))
    | cases h
theorem lineP_err {b : Bag} {n : Nat} {ws : List ByteArray} {e : Bad} (h : lineP b n ws = .error e) : e.1 ≠ 0 := by
  unfold lineP at h
  repeat' split at h
  all_goals first
    | exact err_ne h (by decide)
    | exact namedP_err (map_err h)
    | exact hostP_err (map_err h)
    | exact acceptP_err (map_err h)
    | cases h
/- A TEXT THAT IS READ IS A POLICY THAT MAY BE. -/
theorem parse_may {s : List UInt8} {q : Po} {f : Flt} (h : parseP s = (q, f)) (hf : f.1 = 0) : f = (0, 0, 0) ∧ mayP q = true ∧ PoOk q := by
  unfold parseP at h
  split at h
  · injection h with h1 h2; subst h2; cases hf
  · split at h
    · next e he =>
      injection h with h1 h2
      subst h2
      exfalso
      have : ∀ (l : List (List UInt8)) (n : Nat) (b : Bag) (e : Flt), linesP l n b = .error e → e.1 ≠ 0 := by
        intro l
        induction l with
        | nil => intro n b e h; cases h
        | cons x r ih =>
          intro n b e h
          rw [linesP] at h
          split at h
          · next e2 h2 => injection h with h; subst h; exact lineP_err h2
          · exact ih _ _ _ h
      exact this _ _ _ _ he hf
    · next b hb =>
      have B := linesP_ok _ _ _ _ bag_zero hb
      split at h
      · injection h with h1 h2; subst h2; cases hf
      · next hn =>
        injection h with h1 h2
        subst h1 h2
        rw [List.find?_eq_none] at hn
        have kn : ∀ a ∈ b.p.acls, ∀ s, s ∈ a.src ∨ s ∈ a.dst → knownP b.p s = true := by
          intro a ha s hs
          obtain ⟨u, hu, rfl⟩ := (B.acls a ha).2 s hs
          simpa using hn u hu
        refine ⟨rfl, ?_, ⟨fun x hx => (B.hosts x hx).ok, fun a ha x hx => by have := (B.acls a ha).1.ports x hx; omega⟩⟩
        have nm : ∀ l : List Nm, (∀ n ∈ l, NmOk n) → l.length ≤ 64 → distinct (l.map (·.name)) = true → mayNm l = true := by
          intro l h1 h2 h3
          unfold mayNm
          simp only [Bool.and_eq_true, decide_eq_true_eq]
          refine ⟨⟨List.all_eq_true.2 fun n hn => ?_, h2⟩, h3⟩
          have := h1 n hn
          simp only [Bool.and_eq_true, decide_eq_true_eq]
          exact ⟨⟨⟨this.name, this.ge⟩, this.le⟩, List.all_eq_true.2 this.all⟩
        unfold mayP
        simp only [Bool.and_eq_true, decide_eq_true_eq]
        refine ⟨⟨⟨⟨⟨⟨nm _ B.groups B.groups64 B.groupsD, nm _ B.tags B.tags64 B.tagsD⟩, B.hosts64⟩, B.acls64⟩, List.all_eq_true.2 fun x hx => ?_⟩, List.all_eq_true.2 fun a ha => ?_⟩, B.hostsD⟩
        · simp only [Bool.and_eq_true]; exact ⟨(B.hosts x hx).name, (B.hosts x hx).may⟩
        · have A := (B.acls a ha).1
          have K := kn a ha
          unfold mayAc maySels
          simp only [Bool.and_eq_true, decide_eq_true_eq]
          refine ⟨⟨⟨⟨⟨List.all_eq_true.2 fun x hx => decide_eq_true (A.ports x hx).1, List.all_eq_true.2 fun x hx => A.protos x hx⟩, A.rise⟩, A.ports64⟩, ⟨⟨List.all_eq_true.2 fun s hs => ?_, A.src1⟩, A.src64⟩⟩, ⟨⟨List.all_eq_true.2 fun s hs => ?_, A.dst1⟩, A.dst64⟩⟩
          · simp only [Bool.and_eq_true, decide_eq_true_eq]; exact ⟨A.src s hs, K s (Or.inl hs)⟩
          · simp only [Bool.and_eq_true, decide_eq_true_eq]; exact ⟨A.dst s hs, K s (Or.inr hs)⟩
end Go.Proofs.YtbiglifngfgffaaGreatDoor
