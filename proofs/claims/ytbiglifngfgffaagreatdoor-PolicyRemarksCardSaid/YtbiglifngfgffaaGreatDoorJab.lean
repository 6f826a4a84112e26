/- Joined out of: TxD TxE PoA PoB PoC PoD. -/
import Derived.Test.YtbiglifngfgffaaGreatDoorJaa
set_option linter.unusedVariables false
set_option linter.unusedSimpArgs false

/- Addresses read off texts: the document's guess; prefixes. -/
namespace Go.Proofs.YtbiglifngfgffaaGreatDoor

def digV (base : Nat) (l : List UInt8) : Nat := (digL base l).getD 0
def wideR (l : List (List UInt8)) : Nat := (l.filter fun t => !t.isEmpty).length
def fillR (wide : Nat) : List (List UInt8) → Bool → List Nat
  | [], _ => []
  | t :: r, filled => if t = [] then (if filled then [] else List.replicate (8 - wide) 0) ++ fillR wide r true else digV 16 t :: fillR wide r filled
def padR (p : List Nat) : List Nat := (p ++ List.replicate 8 0).take 8
def guessR (s : List UInt8) : Ad :=
  if (split1 46 s).length = 4 then ⟨false, 0, (split1 46 s).foldl (fun h t => h * 256 + digV 10 t % 256) 0⟩
  else ⟨true, fold16 ((padR (fillR (wideR (split1 58 s)) (split1 58 s) false)).take 4), fold16 ((padR (fillR (wideR (split1 58 s)) (split1 58 s) false)).drop 4)⟩
def readR (s : List UInt8) : Option Ad := if 60 < s.length then none else if textL (guessR s) = s ∧ s ≠ [] then some (guessR s) else none

theorem pval_lt {dv : UInt8 → Option Nat} {base : Nat} (hd : ∀ c d, dv c = some d → d < base) : ∀ (l : List UInt8) (acc B n : Nat), pval dv base acc l = some n → acc < B → n < B * base ^ l.length := by
  intro l
  induction l with
  | nil => intro acc B n h hb; simp [pval] at h; subst h; simpa using hb
  | cons c r ih =>
    intro acc B n h hb
    unfold pval at h
    split at h
    · cases h
    · next d he =>
      have h1 := hd c d he
      have h2 : acc * base + d < B * base := by
        have : (acc + 1) * base ≤ B * base := Nat.mul_le_mul_right _ hb
        rw [Nat.add_mul] at this
        omega
      have := ih _ _ _ h h2
      rw [List.length_cons, Nat.pow_succ, Nat.mul_comm (base ^ r.length), ← Nat.mul_assoc]
      exact this
theorem dvalR_lt (base : Nat) (c : UInt8) (d : Nat) (h : dvalR base c = some d) : d < base := by
  unfold dvalR at h
  split at h
  · split at h
    · cases h; assumption
    · cases h
  · split at h
    · split at h
      · cases h; assumption
      · cases h
    · cases h
theorem digL_lt {base n : Nat} (hb : 1 ≤ base) {l : List UInt8} (h : digL base l = some n) : n < base ^ 4 := by
  unfold digL at h
  split at h
  · cases h
  · next hn =>
    have := pval_lt (dvalR_lt base) l 0 1 n h (by decide)
    rw [Nat.one_mul] at this
    exact Nat.lt_of_lt_of_le this (Nat.pow_le_pow_right hb (by omega))
theorem digV_lt (base : Nat) (hb : 1 ≤ base) (l : List UInt8) : digV base l < base ^ 4 := by
  unfold digV
  cases h : digL base l with
  | none => exact Nat.pow_pos hb
  | some n => exact digL_lt hb h
theorem fillR_lt (wide : Nat) : ∀ (l : List (List UInt8)) (f : Bool), ∀ x ∈ fillR wide l f, x < 65536 := by
  intro l
  induction l with
  | nil => intro f x hx; cases hx
  | cons t r ih =>
    intro f x hx
    unfold fillR at hx
    split at hx
    · rcases List.mem_append.1 hx with hx | hx
      · cases f with
        | true => simp at hx
        | false => simp at hx; omega
      · exact ih _ x hx
    · rcases List.mem_cons.1 hx with hx | hx
      · rw [hx]; exact digV_lt 16 (by decide) t
      · exact ih _ x hx
theorem padR_length (p : List Nat) : (padR p).length = 8 := by unfold padR; rw [List.length_take]; simp
theorem padR_lt {p : List Nat} (h : ∀ x ∈ p, x < 65536) : ∀ x ∈ padR p, x < 65536 := by
  intro x hx
  unfold padR at hx
  rcases List.mem_append.1 (List.mem_of_mem_take hx) with hx | hx
  · exact h x hx
  · simp at hx; omega
theorem padR_eight {p : List Nat} (h : p.length = 8) : padR p = p := by unfold padR; rw [List.take_append_of_le_length (by omega), List.take_of_length_le (by omega)]
theorem guessR_ok (s : List UInt8) : (guessR s).Ok ∧ (guessR s).may = true := by
  unfold guessR
  split
  · next h4 =>
    have : ∀ (l : List (List UInt8)) (h0 B : Nat), h0 < B → l.foldl (fun h t => h * 256 + digV 10 t % 256) h0 < B * 256 ^ l.length := by
      intro l
      induction l with
      | nil => intro h0 B h; simpa using h
      | cons t r ih =>
        intro h0 B h
        have := ih (h0 * 256 + digV 10 t % 256) (B * 256) (by omega)
        rw [List.foldl_cons, List.length_cons, Nat.pow_succ, Nat.mul_comm (256 ^ r.length), ← Nat.mul_assoc]
        exact this
    have h2 := this (split1 46 s) 0 1 (by decide)
    rw [h4] at h2
    exact ⟨⟨by show (0 : Nat) < _; omega, by show List.foldl _ 0 _ < _; omega⟩, by simp [Ad.may]; omega⟩
  · have hl := padR_length (fillR (wideR (split1 58 s)) (split1 58 s) false)
    have hx := padR_lt (fillR_lt (wideR (split1 58 s)) (split1 58 s) false)
    have h1 := fold16_lt _ 0 1 (take_lt (k := 4) hx) (by decide)
    have h2 := fold16_lt _ 0 1 (drop_lt (k := 4) hx) (by decide)
    rw [List.length_take, hl] at h1
    rw [List.length_drop, hl] at h2
    exact ⟨⟨by simpa [fold16] using h1, by simpa [fold16] using h2⟩, rfl⟩

theorem fillR_hex (wide : Nat) (rest : List (List UInt8)) (f : Bool) : ∀ L : List Nat, (∀ x ∈ L, x < 65536) → fillR wide (L.map hexL ++ rest) f = L ++ fillR wide rest f := by
  intro L
  induction L with
  | nil => intro _; rfl
  | cons x r ih =>
    intro h
    rw [List.map_cons, List.cons_append]
    conv => lhs; unfold fillR
    rw [if_neg (hexL_ne x), ih fun y hy => h y (List.mem_cons_of_mem _ hy)]
    unfold digV
    rw [hexL_dig x (h x (List.mem_cons_self ..))]
    rfl
theorem fillR_hex' (wide : Nat) (f : Bool) (L : List Nat) (h : ∀ x ∈ L, x < 65536) : fillR wide (L.map hexL) f = L := by
  have := fillR_hex wide [] f L h
  rw [List.append_nil] at this
  rw [this]
  exact List.append_nil L
theorem wideR_hex (L : List Nat) : wideR (L.map hexL) = L.length := by
  unfold wideR
  rw [List.filter_eq_self.2]
  · simp
  · intro t ht
    obtain ⟨n, _, rfl⟩ := List.mem_map.1 ht
    cases e : hexL n with
    | nil => exact absurd e (hexL_ne n)
    | cons a l => rfl
theorem wideR_append (x y : List (List UInt8)) : wideR (x ++ y) = wideR x + wideR y := by simp [wideR]
theorem split_behind {y : List UInt8} : ∀ {L : List Nat}, L ≠ [] → split1 58 (joinH L ++ 58 :: y) = L.map hexL ++ split1 58 y := by
  intro L
  induction L with
  | nil => intro h; exact absurd rfl h
  | cons x r ih =>
    intro _
    cases r with
    | nil => rw [joinH_one, split1_hit _ (hexL_free x (by decide))]; rfl
    | cons z r =>
      rw [joinH_cons, List.append_assoc, List.cons_append, split1_hit _ (hexL_free x (by decide)), ih (by simp)]
      rfl
theorem split_front {y : List UInt8} (L : List Nat) : ∃ m, split1 58 (joinH L ++ 58 :: 58 :: y) = L.map hexL ++ (List.replicate m [] ++ split1 58 y) ∧ 1 ≤ m := by
  have e1 : split1 58 (58 :: y) = [] :: split1 58 y := split1_hit (x := []) y (by simp)
  cases L with
  | nil =>
    refine ⟨2, ?_, by omega⟩
    rw [joinH_nil, List.nil_append]
    have e2 : split1 58 (58 :: 58 :: y) = [] :: split1 58 (58 :: y) := split1_hit (x := []) _ (by simp)
    rw [e2, e1]
    rfl
  | cons x r =>
    refine ⟨1, ?_, by omega⟩
    rw [split_behind (by simp), e1]
    rfl
theorem split_back (L : List Nat) : ∃ m, split1 58 (joinH L) = List.replicate m [] ++ L.map hexL := by
  cases L with
  | nil => exact ⟨1, rfl⟩
  | cons x r => exact ⟨0, by rw [split_joinH (by simp)]; rfl⟩
theorem fillR_void (wide : Nat) (rest : List (List UInt8)) : ∀ m : Nat, fillR wide (List.replicate m [] ++ rest) true = fillR wide rest true := by
  intro m
  induction m with
  | zero => rfl
  | succ m ih =>
    rw [List.replicate_succ, List.cons_append]
    unfold fillR
    rw [if_pos rfl, if_pos rfl, ih]
    cases rest <;> rfl
theorem wideR_void (m : Nat) : wideR (List.replicate m ([] : List UInt8)) = 0 := by
  unfold wideR
  induction m with
  | zero => rfl
  | succ m ih => rw [List.replicate_succ]; simp

theorem fill_text6 (a : Ad) : fillR (wideR (split1 58 (text6 (pieceL a)))) (split1 58 (text6 (pieceL a))) false = pieceL a := by
  unfold text6
  split
  · rw [split_joinH (by simp [pieceL])]
    exact fillR_hex' _ _ _ (pieceL_lt a)
  · next h =>
    have h0 : 0 ≤ (best (pieceL a)).1 := by omega
    have ok2 := best_ok (pieceL a)
    have h1 := ok2.two h0
    have h2 := ok2.le h0
    have e := best_split h0
    rw [pieceL_length] at h2
    have eA : ((pieceL a).take (best (pieceL a)).1.toNat).length = (best (pieceL a)).1.toNat := by rw [List.length_take, pieceL_length]; omega
    have eB : ((pieceL a).drop ((best (pieceL a)).1.toNat + (best (pieceL a)).2)).length = 8 - ((best (pieceL a)).1.toNat + (best (pieceL a)).2) := by rw [List.length_drop, pieceL_length]
    have hA : ∀ x ∈ (pieceL a).take (best (pieceL a)).1.toNat, x < 65536 := take_lt (pieceL_lt a)
    have hB : ∀ x ∈ (pieceL a).drop ((best (pieceL a)).1.toNat + (best (pieceL a)).2), x < 65536 := drop_lt (pieceL_lt a)
    generalize (pieceL a).take (best (pieceL a)).1.toNat = A at *
    generalize (pieceL a).drop ((best (pieceL a)).1.toNat + (best (pieceL a)).2) = B at *
    obtain ⟨m, em, hm⟩ := split_front (y := joinH B) A
    obtain ⟨m2, em2⟩ := split_back B
    rw [em, em2]
    obtain ⟨k, rfl⟩ : ∃ k, m = k + 1 := ⟨m - 1, by omega⟩
    rw [fillR_hex _ _ _ A hA, List.replicate_succ, List.cons_append]
    conv => lhs; rhs; unfold fillR
    rw [if_pos rfl, if_neg (by decide), fillR_void, fillR_void, fillR_hex' _ _ B hB]
    rw [wideR_append, ← List.cons_append, ← List.replicate_succ, wideR_append, wideR_void, wideR_append, wideR_void, wideR_hex, wideR_hex, eA, eB]
    rw [show 8 - ((best (pieceL a)).1.toNat + (0 + (0 + (8 - ((best (pieceL a)).1.toNat + (best (pieceL a)).2))))) = (best (pieceL a)).2 by omega, ← List.append_assoc]
    exact e.symm

theorem guessR_text {a : Ad} (ok : a.Ok) (hm : a.may = true) : guessR (textL a) = a := by
  unfold guessR
  cases h6 : a.v6 with
  | true =>
    rw [textL_6 h6, split1_none (text6_nodot _), if_neg (by simp), fill_text6, padR_eight (pieceL_length a), fold_hi ok, fold_lo ok]
    cases a; simp at h6; rw [h6]
  | false =>
    obtain ⟨h0, h1⟩ := may4 hm h6
    rw [textL_4 hm h6, split_text4, if_pos (by simp [lo4])]
    have e : ((lo4 a.lo).map Lib.decDigits).foldl (fun h t => h * 256 + digV 10 t % 256) 0 = a.lo := by
      have hl := lo4_lt a.lo
      have hd : ∀ x ∈ lo4 a.lo, digV 10 (Lib.decDigits x) % 256 = x := by
        intro x hx
        have := hl x hx
        unfold digV
        rw [decL_dig x (by omega)]
        show x % 256 = x
        omega
      rw [List.foldl_map]
      have : ∀ (l : List Nat) (h : Nat), (∀ x ∈ l, digV 10 (Lib.decDigits x) % 256 = x) → l.foldl (fun h x => h * 256 + digV 10 (Lib.decDigits x) % 256) h = l.foldl (fun h x => h * 256 + x) h := by
        intro l
        induction l with
        | nil => intro h _; rfl
        | cons x r ih =>
          intro h hx
          rw [List.foldl_cons, List.foldl_cons, hx x (List.mem_cons_self ..), ih _ fun y hy => hx y (List.mem_cons_of_mem _ hy)]
      rw [this _ _ hd]
      exact fold8_lo4 h1
    rw [e]
    cases a; simp at h6 h0; rw [h6, h0]

/- How long texts are. -/
theorem joinH_len : ∀ L : List Nat, (∀ x ∈ L, x < 65536) → (joinH L).length ≤ 5 * L.length := by
  intro L
  induction L with
  | nil => intro _; simp [joinH_nil]
  | cons x r ih =>
    intro h
    have hx := hexL_len x (h x (List.mem_cons_self ..))
    cases r with
    | nil => rw [joinH_one]; simp; omega
    | cons y r =>
      have := ih fun z hz => h z (List.mem_cons_of_mem _ hz)
      rw [joinH_cons]
      simp only [List.length_append, List.length_cons] at *
      omega
theorem textL_len (a : Ad) : (textL a).length ≤ 60 := by
  unfold textL
  split
  · simp
  · split
    · have h := lo4_lt a.lo
      have : ∀ x ∈ lo4 a.lo, (Lib.decDigits x).length ≤ 3 := fun x hx => decL_len x (by have := h x hx; omega)
      unfold text4
      simp only [lo4, List.map_cons, List.map_nil, join_two, Lib.join_one, List.length_append] at *
      have a1 := this _ (List.mem_cons_self ..)
      have a2 := this _ (List.mem_cons_of_mem _ (List.mem_cons_self ..))
      have a3 := this _ (List.mem_cons_of_mem _ (List.mem_cons_of_mem _ (List.mem_cons_self ..)))
      have a4 := this _ (List.mem_cons_of_mem _ (List.mem_cons_of_mem _ (List.mem_cons_of_mem _ (List.mem_cons_self ..))))
      simp only [dot, List.length_singleton]
      omega
    · unfold text6
      split
      · have := joinH_len _ (pieceL_lt a)
        rw [pieceL_length] at this
        omega
      · have h1 := joinH_len _ (take_lt (k := (best (pieceL a)).1.toNat) (pieceL_lt a))
        have h2 := joinH_len _ (drop_lt (k := (best (pieceL a)).1.toNat + (best (pieceL a)).2) (pieceL_lt a))
        rw [List.length_take, pieceL_length] at h1
        rw [List.length_drop, pieceL_length] at h2
        simp only [List.length_append, List.length_cons]
        omega

theorem readR_eq (s : List UInt8) : readR s = readL s := by
  unfold readR
  split
  · next h =>
    cases e : readL s with
    | none => rfl
    | some a =>
      have h1 := (readL_some e).1
      have h2 := textL_len a
      rw [h1] at h2
      omega
  · split
    · next h =>
      have ok := guessR_ok s
      have := read_text ok.1 ok.2
      rw [h.1] at this
      rw [this]
    · next h =>
      cases e : readL s with
      | none => rfl
      | some a =>
        obtain ⟨h1, h2, h3⟩ := readL_some e
        refine absurd ?_ h
        subst h1
        rw [guessR_text h2 h3]
        exact ⟨rfl, textL_ne h3⟩
theorem readL_text_iff {s : List UInt8} {a : Ad} : readL s = some a ↔ textL a = s ∧ a.Ok ∧ a.may = true :=
  ⟨readL_some, fun ⟨h1, h2, h3⟩ => by rw [← h1]; exact read_text h2 h3⟩
end Go.Proofs.YtbiglifngfgffaaGreatDoor

/- Prefixes: the plain law. -/
namespace Go.Proofs.YtbiglifngfgffaaGreatDoor

def Ad.size (a : Ad) : Nat := if a.v6 then 128 else 32
def Ad.val (a : Ad) : Nat := if a.v6 then a.hi * 2 ^ 64 + a.lo else a.lo
def pmay (p : Pf) : Bool := p.a.may && decide (p.bits ≤ p.a.size) && decide (p.a.val % 2 ^ (p.a.size - p.bits) = 0)
def ptext (p : Pf) : List UInt8 := if pmay p = true then textL p.a ++ 47 :: Lib.decDigits p.bits else []
def holdsP (p : Pf) (a : Ad) : Bool := pmay p && a.may && (p.a.v6 == a.v6) && decide (a.val / 2 ^ (p.a.size - p.bits) = p.a.val / 2 ^ (p.a.size - p.bits))
def lessA (a b : Ad) : Bool := if a.v6 != b.v6 then b.v6 else if a.hi ≠ b.hi then decide (a.hi < b.hi) else decide (a.lo < b.lo)

/- The program's way to read a prefix, and the document's. -/
def preadL (s : List UInt8) : Option Pf :=
  if (Lib.cut s [47]).2.2 = false then none
  else match readL (Lib.cut s [47]).1, num1 10 256 (Lib.cut s [47]).2.1 with
    | some a, some n => if ptext ⟨a, n⟩ = s then some ⟨a, n⟩ else none
    | _, _ => none
def preadR (s : List UInt8) : Option Pf :=
  if (split1 47 s).length ≠ 2 then none
  else match readL ((split1 47 s).getD 0 []), digL 10 ((split1 47 s).getD 1 []) with
    | some a, some n => if 128 < n then none else if ptext ⟨a, n⟩ = s then some ⟨a, n⟩ else none
    | _, _ => none

theorem pmay_may {p : Pf} (h : pmay p = true) : p.a.may = true ∧ p.bits ≤ p.a.size := by
  unfold pmay at h
  simp only [Bool.and_eq_true, decide_eq_true_eq] at h
  exact h.1
theorem size_le (a : Ad) : a.size ≤ 128 := by unfold Ad.size; split <;> omega
theorem textL_noslash (a : Ad) : (47 : UInt8) ∉ textL a := by
  intro h
  unfold textL at h
  split at h
  · cases h
  · split at h
    · have : ∀ (xs : List (List UInt8)) (c : UInt8), c ∈ Lib.join xs dot → c = 46 ∨ ∃ x ∈ xs, c ∈ x := by
        intro xs
        induction xs with
        | nil => intro c hc; cases hc
        | cons x r ih =>
          intro c hc
          cases r with
          | nil => rw [Lib.join_one] at hc; exact Or.inr ⟨x, List.mem_cons_self .., hc⟩
          | cons y r =>
            rw [join_two] at hc
            rcases List.mem_append.1 hc with hc | hc
            · exact Or.inr ⟨x, List.mem_cons_self .., hc⟩
            · rcases List.mem_append.1 hc with hc | hc
              · exact Or.inl (by simpa [dot] using hc)
              · rcases ih c hc with e | ⟨z, hz, hc⟩
                · exact Or.inl e
                · exact Or.inr ⟨z, List.mem_cons_of_mem _ hz, hc⟩
      rcases this _ _ h with e | ⟨x, hx, hc⟩
      · exact absurd e (by decide)
      · exact dec_free (c := 47) (by decide) _ x hx hc
    · rcases text6_mem _ _ h with h | h
      · exact absurd h (by decide)
      · exact absurd h (by decide)
theorem ptext_ne {p : Pf} (h : pmay p = true) : ptext p ≠ [] := by unfold ptext; rw [if_pos h]; simp
theorem ptext_of {p : Pf} (h : ptext p ≠ []) : pmay p = true := by
  unfold ptext at h
  split at h
  · assumption
  · exact absurd rfl h

theorem preadL_text {p : Pf} (ok : p.Ok) (h : pmay p = true) : preadL (ptext p) = some p := by
  have h1 := pmay_may h
  have e : ptext p = textL p.a ++ 47 :: Lib.decDigits p.bits := by unfold ptext; rw [if_pos h]
  unfold preadL
  have hc : Lib.cut (ptext p) [47] = (textL p.a, Lib.decDigits p.bits, true) := by rw [e]; exact cut_one_hit _ (textL_noslash _)
  rw [hc]
  simp only
  rw [if_neg (by decide), read_text ok.a h1.1, decL_num p.bits ok.bits]
  simp
theorem preadL_some {s : List UInt8} {p : Pf} (h : preadL s = some p) : ptext p = s ∧ p.Ok ∧ pmay p = true := by
  unfold preadL at h
  split at h
  · cases h
  · next hn =>
    split at h
    · next a n ha hb =>
      split at h
      · next ht =>
        cases h
        have hs : s ≠ [] := by rintro rfl; exact hn rfl
        exact ⟨ht, ⟨(readL_some ha).2.1, num1_lt hb⟩, ptext_of (by rw [ht]; exact hs)⟩
      · cases h
    · cases h
theorem preadR_eq (s : List UInt8) : preadR s = preadL s := by
  cases e : preadL s with
  | some p =>
    obtain ⟨h1, h2, h3⟩ := preadL_some e
    subst h1
    have h4 := pmay_may h3
    have h5 := size_le p.a
    have et : ptext p = textL p.a ++ 47 :: Lib.decDigits p.bits := by unfold ptext; rw [if_pos h3]
    have es : split1 47 (ptext p) = [textL p.a, Lib.decDigits p.bits] := by rw [et, split1_hit _ (textL_noslash _), split1_none (decL_free _ (by decide))]
    unfold preadR
    rw [es]
    simp only [List.getD_cons_zero, List.getD_cons_succ, List.length_cons, List.length_nil]
    rw [if_neg (by decide), read_text h2.a h4.1, decL_dig p.bits (by omega)]
    simp only
    rw [if_neg (by omega)]
    simp
  | none =>
    unfold preadR
    split
    · rfl
    · next hl =>
      split
      · next a n ha hb =>
        split
        · rfl
        · split
          · next ht =>
            have hs : s ≠ [] := by rintro rfl; exact hl (by decide)
            have h3 := ptext_of (p := ⟨a, n⟩) (by rw [ht]; exact hs)
            have := preadL_text (p := ⟨a, n⟩) ⟨(readL_some ha).2.1, by show n < 256; omega⟩ h3
            rw [ht, e] at this
            cases this
          · rfl
      · rfl
end Go.Proofs.YtbiglifngfgffaaGreatDoor

/- A policy as data; its text read and written: the definitions. -/
namespace Go.Proofs.YtbiglifngfgffaaGreatDoor
open Go.RowKit

/- A policy as data. -/
structure Sel where
  kind : Nat
  name : ByteArray
  net : Pf
structure Nm where
  name : ByteArray
  list : List ByteArray
structure Hs where
  name : ByteArray
  net : Pf
structure Ac where
  protos : List Nat
  src : List Sel
  dst : List Sel
  ports : List (Nat × Nat)
structure Po where
  groups : List Nm
  tags : List Nm
  hosts : List Hs
  acls : List Ac
deriving instance DecidableEq for Ad
deriving instance DecidableEq for Pf
deriving instance DecidableEq for Sel
deriving instance DecidableEq for Nm
deriving instance DecidableEq for Hs
deriving instance DecidableEq for Ac
deriving instance DecidableEq for Po
def Ad.zero : Ad := ⟨false, 0, 0⟩
def Pf.zero : Pf := ⟨Ad.zero, 0⟩
def Po.zero : Po := ⟨[], [], [], []⟩
/- Names. -/
def az (c : UInt8) : Bool := decide (97 ≤ c.toNat ∧ c.toNat ≤ 122)
def labc (c : UInt8) : Bool := az c || decide (48 ≤ c.toNat ∧ c.toNat ≤ 57) || decide (c = 46) || decide (c = 95) || decide (c = 45)
def labelL (s : List UInt8) : Bool := match s with
  | [] => false
  | c :: r => decide (r.length < 32) && az c && r.all labc
def labelB (s : ByteArray) : Bool := labelL s.data.toList
/- The words of a line: between blanks and tabs, up to the first one that begins with '#'. -/
def blank (c : UInt8) : Bool := decide (c = 32) || decide (c = 9)
def fieldsGo (cur : List UInt8) : List UInt8 → List (List UInt8)
  | [] => if cur = [] then [] else [cur]
  | c :: r => if blank c = true then (if cur = [] then fieldsGo [] r else cur :: fieldsGo [] r) else fieldsGo (cur ++ [c]) r
def fieldsB (s : List UInt8) : List (List UInt8) := fieldsGo [] s
def plainWord (w : List UInt8) : Bool := match w with
  | [] => true
  | c :: _ => decide (c ≠ 35)
def ofL (l : List UInt8) : ByteArray := ⟨l.toArray⟩
def wordsL (s : List UInt8) : List ByteArray := ((fieldsB s).takeWhile plainWord).map ofL
/- The words that a policy is written with. -/
def W_group : ByteArray := ⟨#[103, 114, 111, 117, 112]⟩
def W_tag : ByteArray := ⟨#[116, 97, 103]⟩
def W_host : ByteArray := ⟨#[104, 111, 115, 116]⟩
def W_accept : ByteArray := ⟨#[97, 99, 99, 101, 112, 116]⟩
def W_eq : ByteArray := ⟨#[61]⟩
def W_any : ByteArray := ⟨#[97, 110, 121]⟩
def W_from : ByteArray := ⟨#[102, 114, 111, 109]⟩
def W_to : ByteArray := ⟨#[116, 111]⟩
def W_ports : ByteArray := ⟨#[112, 111, 114, 116, 115]⟩
def W_star : ByteArray := ⟨#[42]⟩
def W_user : ByteArray := ⟨#[117, 115, 101, 114]⟩
def W_net : ByteArray := ⟨#[110, 101, 116]⟩
def W_icmp : ByteArray := ⟨#[105, 99, 109, 112]⟩
def W_tcp : ByteArray := ⟨#[116, 99, 112]⟩
def W_udp : ByteArray := ⟨#[117, 100, 112]⟩
/- What is told. -/
def hasN (l : List Nm) (s : ByteArray) : Bool := l.any fun n => decide (n.name = s)
def hasH (l : List Hs) (s : ByteArray) : Bool := l.any fun n => decide (n.name = s)
def knownP (p : Po) (s : Sel) : Bool := if s.kind = 3 then hasN p.groups s.name else if s.kind = 4 then hasN p.tags s.name else if s.kind = 5 then hasH p.hosts s.name else true
abbrev Bad := Nat × Nat
def namesGo : List ByteArray → Nat → Nat → Except Bad (List ByteArray)
  | [], _, _ => .ok []
  | s :: r, i, c => if labelB s = false then .error (191, i) else if 64 ≤ c then .error (198, i) else (namesGo r (i + 1) (c + 1)).map (s :: ·)
def namedP (ws : List ByteArray) (told : List Nm) : Except Bad Nm :=
  if 64 ≤ told.length then .error (198, 0) else
  match ws with
  | _ :: nm :: r =>
    if labelB nm = false then .error (191, 1) else if hasN told nm = true then .error (197, 1) else
    match r with
    | e :: r' => if e ≠ W_eq then .error (190, 2) else if r' = [] then .error (190, 3) else (namesGo r' 3 0).map (⟨nm, ·⟩)
    | [] => .error (190, 2)
  | _ => .error (190, ws.length)
def hostP (ws : List ByteArray) (told : List Hs) : Except Bad Hs :=
  if 64 ≤ told.length then .error (198, 0) else
  match ws with
  | _ :: nm :: r =>
    if labelB nm = false then .error (191, 1) else if hasH told nm = true then .error (197, 1) else
    match r with
    | e :: r' => if e ≠ W_eq then .error (190, 2) else
      match r' with
      | [] => .error (190, 3)
      | t :: r'' => match preadL t.data.toList with
        | none => .error (192, 3)
        | some n => if r'' ≠ [] then .error (190, 4) else .ok ⟨nm, n⟩
    | [] => .error (190, 2)
  | _ => .error (190, ws.length)
def protoN (w : List UInt8) : Nat := if ofL w = W_icmp then 1 else if ofL w = W_tcp then 6 else if ofL w = W_udp then 17 else 0
def protosGo (last : Nat) : List (List UInt8) → Option (List Nat)
  | [] => some []
  | w :: r => if protoN w = 0 ∨ protoN w ≤ last then none else (protosGo (protoN w) r).map (protoN w :: ·)
def protosP (w : ByteArray) : Option (List Nat) := if w = W_any then some [] else protosGo 0 (split1 44 w.data.toList)
def kindN (w : List UInt8) : Nat := if ofL w = W_user then 2 else if ofL w = W_group then 3 else if ofL w = W_tag then 4 else if ofL w = W_host then 5 else if ofL w = W_net then 6 else 0
def selP (w : ByteArray) : Option Sel :=
  if w = W_star then some ⟨1, ByteArray.empty, Pf.zero⟩ else
  let c := Lib.cut w.data.toList [58]
  if kindN c.1 = 6 then (preadL c.2.1).map fun n => ⟨6, ByteArray.empty, n⟩
  else if 0 < kindN c.1 ∧ labelL c.2.1 = true then some ⟨kindN c.1, ofL c.2.1, Pf.zero⟩ else none
def selsGo (en : ByteArray) : List ByteArray → Nat → Nat → Except Bad (List (Sel × Nat) × List ByteArray)
  | [], i, c => if c = 0 then .error (190, i) else .ok ([], [])
  | w :: r, i, c => if w = en ∧ c ≠ 0 then .ok ([], w :: r) else match selP w with
    | none => .error (195, i)
    | some s => if 64 ≤ c then .error (198, i) else (selsGo en r (i + 1) (c + 1)).map fun x => ((s, i) :: x.1, x.2)
def portN (s : List UInt8) : Option Nat := (num1 10 65536 s).bind fun n => if Lib.decDigits n = s then some n else none
def portsP (w : ByteArray) : Option (Nat × Nat) :=
  let c := Lib.cut w.data.toList [45]
  match portN c.1, portN (if c.2.2 = true then c.2.1 else c.1) with
  | some a, some b => if a ≤ b then some (a, b) else none
  | _, _ => none
def portsGo : List ByteArray → Nat → Nat → Except Bad (List (Nat × Nat))
  | [], _, _ => .ok []
  | w :: r, i, c => match portsP w with
    | none => .error (193, i)
    | some x => if 64 ≤ c then .error (198, i) else (portsGo r (i + 1) (c + 1)).map (x :: ·)
/- An accept, and its selectors with their places. -/
def acceptP (ws : List ByteArray) (told : Nat) : Except Bad (Ac × List (Sel × Nat)) :=
  if 64 ≤ told then .error (198, 0) else
  match ws with
  | _ :: pr :: r => match protosP pr with
    | none => .error (194, 1)
    | some ps => match r with
      | [] => .error (190, 2)
      | f :: r' => if f ≠ W_from then .error (190, 2) else
        match selsGo W_to r' 3 0 with
        | .error e => .error e
        | .ok (src, r2) => match r2 with
          | [] => .error (190, ws.length)
          | _ :: r3 => match selsGo W_ports r3 (ws.length - r3.length) 0 with
            | .error e => .error e
            | .ok (dst, r4) => match r4 with
              | [] => .ok (⟨ps, src.map (·.1), dst.map (·.1), []⟩, src ++ dst)
              | _ :: r5 => if r5 = [] then .error (190, ws.length) else
                (portsGo r5 (ws.length - r5.length) 0).map fun po => (⟨ps, src.map (·.1), dst.map (·.1), po⟩, src ++ dst)
  | _ => .error (190, ws.length)
/- What stands so far, and who was named where. -/
structure Bag where
  p : Po
  used : List (Sel × Nat × Nat)
def lineP (b : Bag) (n : Nat) (ws : List ByteArray) : Except Bad Bag := match ws with
  | [] => .ok b
  | w :: _ =>
    if w = W_group then (namedP ws b.p.groups).map fun x => { b with p := { b.p with groups := b.p.groups ++ [x] } }
    else if w = W_tag then (namedP ws b.p.tags).map fun x => { b with p := { b.p with tags := b.p.tags ++ [x] } }
    else if w = W_host then (hostP ws b.p.hosts).map fun x => { b with p := { b.p with hosts := b.p.hosts ++ [x] } }
    else if w = W_accept then (acceptP ws b.p.acls.length).map fun x => { p := { b.p with acls := b.p.acls ++ [x.1] }, used := b.used ++ x.2.map fun y => (y.1, n, y.2) }
    else .error (190, 0)
abbrev Flt := Nat × Nat × Nat
def linesP : List (List UInt8) → Nat → Bag → Except Flt Bag
  | [], _, b => .ok b
  | l :: r, n, b => match lineP b n (wordsL l) with
    | .error e => .error (e.1, n, e.2)
    | .ok b' => linesP r (n + 1) b'
def parseP (s : List UInt8) : Po × Flt :=
  if 8192 < s.length then (Po.zero, (4, 0, 0)) else
  match linesP (split1 10 s) 1 ⟨Po.zero, []⟩ with
  | .error e => (Po.zero, e)
  | .ok b => match b.used.find? fun u => !knownP b.p u.1 with
    | some u => (Po.zero, (196, u.2))
    | none => (b.p, (0, 0, 0))
/- How a policy is written. -/
def selT (s : Sel) : List UInt8 :=
  if s.kind = 1 then [42] else if s.kind = 2 then W_user.data.toList ++ 58 :: s.name.data.toList else if s.kind = 3 then W_group.data.toList ++ 58 :: s.name.data.toList
  else if s.kind = 4 then W_tag.data.toList ++ 58 :: s.name.data.toList else if s.kind = 5 then W_host.data.toList ++ 58 :: s.name.data.toList else if s.kind = 6 then W_net.data.toList ++ 58 :: ptext s.net else []
def protoT (x : Nat) : List UInt8 := if x = 1 then W_icmp.data.toList else if x = 6 then W_tcp.data.toList else W_udp.data.toList
def portT (x : Nat × Nat) : List UInt8 := Lib.decDigits x.1 ++ (if x.2 ≠ x.1 then 45 :: Lib.decDigits x.2 else [])
def aclT (a : Ac) : List (List UInt8) :=
  [W_accept.data.toList, if a.protos = [] then W_any.data.toList else Lib.join (a.protos.map protoT) [44], W_from.data.toList] ++ a.src.map selT ++ [W_to.data.toList] ++ a.dst.map selT ++ (if a.ports = [] then [] else W_ports.data.toList :: a.ports.map portT)
def nmT (w : List UInt8) (n : Nm) : List (List UInt8) := [w, n.name.data.toList, [61]] ++ n.list.map fun s => s.data.toList
def hsT (h : Hs) : List (List UInt8) := [W_host.data.toList, h.name.data.toList, [61], ptext h.net]
def lineT (l : List (List UInt8)) : List UInt8 := Lib.join l [32] ++ [10]
def linesT (p : Po) : List (List (List UInt8)) := p.groups.map (nmT (W_group.data.toList)) ++ p.tags.map (nmT (W_tag.data.toList)) ++ p.hosts.map hsT ++ p.acls.map aclT
def textP (p : Po) : List UInt8 := ((linesT p).map lineT).flatten
/- Which policies may be. -/
def distinct : List ByteArray → Bool
  | [] => true
  | s :: r => !(r.any fun t => decide (t = s)) && distinct r
def mayNm (l : List Nm) : Bool := (l.all fun n => labelB n.name && decide (1 ≤ n.list.length) && decide (n.list.length ≤ 64) && n.list.all labelB) && decide (l.length ≤ 64) && distinct (l.map (·.name))
def maySels (p : Po) (l : List Sel) : Bool := (l.all fun s => decide (selP (ofL (selT s)) = some s) && knownP p s) && decide (1 ≤ l.length) && decide (l.length ≤ 64)
def rising : Nat → List Nat → Bool
  | _, [] => true
  | last, x :: r => decide (last < x) && rising x r
def mayAc (p : Po) (a : Ac) : Bool := (a.ports.all fun x => decide (x.1 ≤ x.2)) && (a.protos.all fun x => decide (x = 1) || decide (x = 6) || decide (x = 17)) && rising 0 a.protos && decide (a.ports.length ≤ 64) && maySels p a.src && maySels p a.dst
def mayP (p : Po) : Bool := mayNm p.groups && mayNm p.tags && decide (p.hosts.length ≤ 64) && decide (p.acls.length ≤ 64) && (p.hosts.all fun h => labelB h.name && pmay h.net) && (p.acls.all (mayAc p)) && distinct (p.hosts.map (·.name))
end Go.Proofs.YtbiglifngfgffaaGreatDoor

/- Words and lines: the plain law. -/
namespace Go.Proofs.YtbiglifngfgffaaGreatDoor
open Go.RowKit

/- Words that may stand in a line. -/
structure Word (w : List UInt8) : Prop where
  ne : w ≠ []
  solid : ∀ c ∈ w, blank c = false ∧ c ≠ 10
  plain : plainWord w = true
theorem fieldsGo_solid : ∀ (w cur r : List UInt8), (∀ c ∈ w, blank c = false) → fieldsGo cur (w ++ r) = fieldsGo (cur ++ w) r := by
  intro w
  induction w with
  | nil => intro cur r _; simp
  | cons c w ih =>
    intro cur r h
    have hc := h c (List.mem_cons_self ..)
    rw [List.cons_append, fieldsGo, hc, if_neg (by decide), ih _ _ fun d hd => h d (List.mem_cons_of_mem _ hd)]
    simp
theorem join_cons2 (x y : List UInt8) (r : List (List UInt8)) (c : List UInt8) : Lib.join (x :: y :: r) c = x ++ c ++ Lib.join (y :: r) c := by rw [join_two, List.append_assoc]
theorem fields_join : ∀ (ws : List (List UInt8)), (∀ w ∈ ws, Word w) → fieldsB (Lib.join ws [32]) = ws := by
  intro ws
  induction ws with
  | nil => intro _; rfl
  | cons x r ih =>
    intro h
    have hx := h x (List.mem_cons_self ..)
    have hs : ∀ c ∈ x, blank c = false := fun c hc => (hx.solid c hc).1
    cases r with
    | nil =>
      rw [Lib.join_one]
      unfold fieldsB
      have := fieldsGo_solid x [] [] hs
      rw [List.append_nil, List.nil_append] at this
      rw [this, fieldsGo, if_neg hx.ne]
    | cons y r =>
      have := ih fun w hw => h w (List.mem_cons_of_mem _ hw)
      unfold fieldsB at this ⊢
      rw [join_cons2, List.append_assoc, fieldsGo_solid x [] _ hs, List.nil_append, List.singleton_append, fieldsGo, if_pos (by decide), if_neg hx.ne, this]
theorem takeWhile_all {α : Type} (p : α → Bool) : ∀ (l : List α), (∀ x ∈ l, p x = true) → l.takeWhile p = l := by
  intro l
  induction l with
  | nil => intro _; rfl
  | cons x r ih => intro h; rw [List.takeWhile_cons, h x (List.mem_cons_self ..), if_pos rfl, ih fun y hy => h y (List.mem_cons_of_mem _ hy)]
theorem words_join {ws : List (List UInt8)} (h : ∀ w ∈ ws, Word w) : wordsL (Lib.join ws [32]) = ws.map ofL := by
  unfold wordsL
  rw [fields_join ws h, takeWhile_all _ _ fun w hw => (h w hw).plain]
theorem words_nil : wordsL [] = [] := rfl
theorem join_no10 : ∀ (ws : List (List UInt8)), (∀ w ∈ ws, Word w) → (10 : UInt8) ∉ Lib.join ws [32] := by
  intro ws
  induction ws with
  | nil => intro _ h; cases h
  | cons x r ih =>
    intro h
    have hx := h x (List.mem_cons_self ..)
    cases r with
    | nil => rw [Lib.join_one]; intro h10; exact (hx.solid 10 h10).2 rfl
    | cons y r =>
      have := ih fun w hw => h w (List.mem_cons_of_mem _ hw)
      rw [join_cons2]
      intro h10
      rcases List.mem_append.1 h10 with h10 | h10
      · rcases List.mem_append.1 h10 with h10 | h10
        · exact (hx.solid 10 h10).2 rfl
        · cases h10 with
          | tail _ h => cases h
      · exact this h10
theorem ofL_back (b : ByteArray) : ofL b.data.toList = b := by
  unfold ofL
  rw [Array.toArray_toList]
theorem ofL_toList (l : List UInt8) : (ofL l).data.toList = l := rfl
theorem ofL_inj {a b : List UInt8} (h : ofL a = ofL b) : a = b := by
  have := congrArg (fun x : ByteArray => x.data.toList) h
  exact this
end Go.Proofs.YtbiglifngfgffaaGreatDoor

/- Names, ports, protocols, back from their words: the plain law. -/
namespace Go.Proofs.YtbiglifngfgffaaGreatDoor
open Go.RowKit

theorem labc_not {c d : UInt8} (h : labc c = true) (hd : labc d = false) : c ≠ d := by
  rintro rfl
  rw [h] at hd
  cases hd
theorem labc_solid {c : UInt8} (h : labc c = true) : blank c = false ∧ c ≠ 10 ∧ c ≠ 35 ∧ c ≠ 58 := by
  refine ⟨?_, labc_not h (by decide), labc_not h (by decide), labc_not h (by decide)⟩
  unfold blank
  rw [decide_eq_false (labc_not h (by decide)), decide_eq_false (labc_not h (by decide))]
  rfl
theorem az_labc {c : UInt8} (h : az c = true) : labc c = true := by unfold labc; rw [h]; rfl
theorem label_chars {s : List UInt8} (h : labelL s = true) : s ≠ [] ∧ ∀ c ∈ s, labc c = true := by
  unfold labelL at h
  cases s with
  | nil => cases h
  | cons c r =>
    simp only [Bool.and_eq_true] at h
    refine ⟨by simp, fun d hd => ?_⟩
    rcases List.mem_cons.1 hd with rfl | hd
    · exact az_labc h.1.2
    · exact List.all_eq_true.1 h.2 d hd
theorem word_of {w : List UInt8} (h0 : w ≠ []) (h : ∀ c ∈ w, blank c = false ∧ c ≠ 10) (hp : plainWord w = true) : Word w := ⟨h0, h, hp⟩
theorem label_word {s : List UInt8} (h : labelL s = true) : Word s := by
  obtain ⟨h0, hc⟩ := label_chars h
  refine ⟨h0, fun c hcm => ?_, ?_⟩
  · have := labc_solid (hc c hcm)
    exact ⟨this.1, this.2.1⟩
  · cases s with
    | nil => exact absurd rfl h0
    | cons c r =>
      show decide (c ≠ 35) = true
      exact decide_eq_true (labc_solid (hc c (List.mem_cons_self ..))).2.2.1
theorem namesGo_ok : ∀ (l : List ByteArray) (i c : Nat), (∀ s ∈ l, labelB s = true) → c + l.length ≤ 64 → namesGo l i c = .ok l := by
  intro l
  induction l with
  | nil => intro i c _ _; rfl
  | cons s r ih =>
    intro i c h hl
    rw [List.length_cons] at hl
    rw [namesGo, if_neg (by rw [h s (List.mem_cons_self ..)]; decide), if_neg (by omega), ih _ _ (fun t ht => h t (List.mem_cons_of_mem _ ht)) (by omega)]
    rfl
/- A group, or a tag, that may stand. -/
structure NmOk (n : Nm) : Prop where
  name : labelB n.name = true
  ge : 1 ≤ n.list.length
  le : n.list.length ≤ 64
  all : ∀ s ∈ n.list, labelB s = true
theorem namedP_back {n : Nm} {told : List Nm} (w : ByteArray) (h : NmOk n) (hl : told.length < 64) (ht : hasN told n.name = false) : namedP (w :: n.name :: W_eq :: n.list) told = .ok n := by
  unfold namedP
  have hne : n.list ≠ [] := by intro e; have := h.ge; rw [e] at this; cases this
  rw [if_neg (by omega)]
  simp only
  rw [if_neg (by rw [h.name]; decide), if_neg (by rw [ht]; decide), if_neg (by simp), if_neg hne, namesGo_ok _ _ _ h.all (by have := h.le; omega)]
  rfl
theorem hostP_back {x : Hs} {told : List Hs} (w : ByteArray) (h : labelB x.name = true) (ok : x.net.Ok) (hm : pmay x.net = true) (hl : told.length < 64) (ht : hasH told x.name = false) : hostP [w, x.name, W_eq, ofL (ptext x.net)] told = .ok x := by
  unfold hostP
  rw [if_neg (by omega)]
  simp only
  rw [if_neg (by rw [h]; decide), if_neg (by rw [ht]; decide), if_neg (by simp), ofL_toList, preadL_text ok hm]
  simp
theorem selP_to : selP W_to = none := by decide +kernel
theorem selP_ports : selP W_ports = none := by decide +kernel
theorem selsGo_back {en : ByteArray} (he : selP en = none) (t : List ByteArray) (ht : t = [] ∨ ∃ r, t = en :: r) : ∀ (l : List Sel) (i c : Nat), (∀ s ∈ l, selP (ofL (selT s)) = some s) → c + l.length ≤ 64 → 0 < c + l.length → ∃ L, selsGo en (l.map (fun s => ofL (selT s)) ++ t) i c = .ok (L, t) ∧ L.map (·.1) = l := by
  intro l
  induction l with
  | nil =>
    intro i c _ _ hc
    rw [List.map_nil, List.nil_append]
    rcases ht with rfl | ⟨r, rfl⟩
    · refine ⟨[], ?_, rfl⟩
      rw [selsGo, if_neg (by simp at hc; omega)]
    · refine ⟨[], ?_, rfl⟩
      rw [selsGo, if_pos ⟨rfl, by simp at hc; omega⟩]
  | cons s r ih =>
    intro i c h hl _
    rw [List.length_cons] at hl
    have hs := h s (List.mem_cons_self ..)
    obtain ⟨L, h1, h2⟩ := ih (i + 1) (c + 1) (fun x hx => h x (List.mem_cons_of_mem _ hx)) (by omega) (by omega)
    refine ⟨(s, i) :: L, ?_, by rw [List.map_cons, h2]⟩
    rw [List.map_cons, List.cons_append, selsGo, if_neg, hs]
    · simp only
      rw [if_neg (by omega), h1]
      rfl
    · rintro ⟨e, _⟩
      rw [e, he] at hs
      cases hs
theorem num1_dec {n : Nat} (h : n < 65536) : num1 10 65536 (Lib.decDigits n) = some n := decL_num n h
theorem portN_dec {n : Nat} (h : n < 65536) : portN (Lib.decDigits n) = some n := by
  unfold portN
  rw [num1_dec h]
  show (if Lib.decDigits n = Lib.decDigits n then some n else none) = some n
  rw [if_pos rfl]
theorem portsP_back {a b : Nat} (h : a ≤ b) (hb : b < 65536) : portsP (ofL (portT (a, b))) = some (a, b) := by
  unfold portsP portT
  rw [ofL_toList]
  have h45 : (45 : UInt8) ∉ Lib.decDigits a := decL_free a (by decide)
  by_cases e : b = a
  · subst e
    simp only [ne_eq, not_true_eq_false, if_false, List.append_nil]
    rw [cut_one_none h45]
    simp only [Bool.false_eq_true, if_false]
    rw [portN_dec hb]
    simp
  · simp only [ne_eq, e, not_false_eq_true, if_true]
    rw [cut_one_hit _ h45]
    simp only [if_true]
    rw [portN_dec hb, portN_dec (by omega)]
    simp [h]
theorem portsGo_ok : ∀ (l : List (Nat × Nat)) (i c : Nat), (∀ x ∈ l, x.1 ≤ x.2 ∧ x.2 < 65536) → c + l.length ≤ 64 → portsGo (l.map fun x => ofL (portT x)) i c = .ok l := by
  intro l
  induction l with
  | nil => intro i c _ _; rfl
  | cons x r ih =>
    intro i c h hl
    rw [List.length_cons] at hl
    obtain ⟨h1, h2⟩ := h x (List.mem_cons_self ..)
    rw [List.map_cons, portsGo, show portsP (ofL (portT x)) = some x from portsP_back h1 h2]
    simp only
    rw [if_neg (by omega), ih _ _ (fun t ht => h t (List.mem_cons_of_mem _ ht)) (by omega)]
    rfl
/- Protocols: at most three. -/
theorem rising_gt : ∀ (l : List Nat) (k : Nat), rising k l = true → ∀ x ∈ l, k < x := by
  intro l
  induction l with
  | nil => intro k _ x hx; cases hx
  | cons y r ih =>
    intro k h x hx
    unfold rising at h
    simp only [Bool.and_eq_true, decide_eq_true_eq] at h
    rcases List.mem_cons.1 hx with rfl | hx
    · exact h.1
    · have := ih y h.2 x hx; omega
def protoOk (x : Nat) : Bool := decide (x = 1) || decide (x = 6) || decide (x = 17)
theorem protoOk_cases {x : Nat} (h : protoOk x = true) : x = 1 ∨ x = 6 ∨ x = 17 := by
  unfold protoOk at h
  simpa [or_assoc] using h
theorem protoN_T {x : Nat} (h : protoOk x = true) : protoN (protoT x) = x := by
  rcases protoOk_cases h with rfl | rfl | rfl <;> decide
theorem protosGo_back : ∀ (l : List Nat) (k : Nat), rising k l = true → (∀ x ∈ l, protoOk x = true) → protosGo k (l.map protoT) = some l := by
  intro l
  induction l with
  | nil => intro k _ _; rfl
  | cons x r ih =>
    intro k h hp
    have hx := hp x (List.mem_cons_self ..)
    unfold rising at h
    simp only [Bool.and_eq_true, decide_eq_true_eq] at h
    rw [List.map_cons, protosGo, protoN_T hx, if_neg (by have := protoOk_cases hx; omega), ih _ h.2 fun y hy => hp y (List.mem_cons_of_mem _ hy)]
    rfl
theorem protoT_no44 (x : Nat) : (44 : UInt8) ∉ protoT x := by
  unfold protoT
  split
  · decide
  · split <;> decide
theorem protoT_solid (x : Nat) : ∀ c ∈ protoT x, blank c = false ∧ c ≠ 10 ∧ c ≠ 35 := by
  unfold protoT
  split
  · decide
  · split <;> decide
theorem protoT_ne (x : Nat) : protoT x ≠ [] := by
  unfold protoT
  split
  · decide
  · split <;> decide
theorem join_protos_ne {l : List Nat} (h : l ≠ []) (hp : ∀ x ∈ l, protoOk x = true) : ofL (Lib.join (l.map protoT) [44]) ≠ W_any := by
  cases l with
  | nil => exact absurd rfl h
  | cons x r =>
    intro e
    have e := ofL_inj (e.trans (ofL_back W_any).symm)
    have hx := hp x (List.mem_cons_self ..)
    have h3 : ∃ y ys, Lib.join ((x :: r).map protoT) [44] = y :: ys ∧ y ≠ 97 := by
      cases r with
      | nil =>
        rw [List.map_cons, List.map_nil, Lib.join_one]
        rcases protoOk_cases hx with rfl | rfl | rfl <;> exact ⟨_, _, rfl, by decide⟩
      | cons y r =>
        rw [List.map_cons, List.map_cons, join_two]
        rcases protoOk_cases hx with rfl | rfl | rfl <;> exact ⟨_, _, rfl, by decide⟩
    obtain ⟨y, ys, h4, h5⟩ := h3
    rw [h4] at e
    injection e with e _
    exact h5 e
def protosT (l : List Nat) : List UInt8 := if l = [] then W_any.data.toList else Lib.join (l.map protoT) [44]
theorem protosP_back {l : List Nat} (h : rising 0 l = true) (hp : ∀ x ∈ l, protoOk x = true) : protosP (ofL (protosT l)) = some l := by
  unfold protosP protosT
  by_cases e : l = []
  · subst e; rw [if_pos rfl, ofL_back, if_pos rfl]
  · rw [if_neg e, if_neg (join_protos_ne e hp), ofL_toList, split1_join (by simpa using e) (by
      intro x hx
      obtain ⟨y, _, rfl⟩ := List.mem_map.1 hx
      exact protoT_no44 y)]
    exact protosGo_back l 0 h hp
theorem selP_ne {w : ByteArray} {s : Sel} (h : selP w = some s) : w.data.toList ≠ [] := by
  intro e
  have : w = ByteArray.empty := by
    have := ofL_back w
    rw [e] at this
    exact this.symm
  subst this
  revert h
  have : selP ByteArray.empty = none := by decide +kernel
  rw [this]
  intro h
  cases h
end Go.Proofs.YtbiglifngfgffaaGreatDoor

/- Selectors and words: the plain law. -/
namespace Go.Proofs.YtbiglifngfgffaaGreatDoor
open Go.RowKit

/- A selector's word is the selector's text. -/
theorem cut_one (s : List UInt8) (c : UInt8) : (c ∉ s ∧ Lib.cut s [c] = (s, [], false)) ∨ (∃ x y, s = x ++ c :: y ∧ c ∉ x ∧ Lib.cut s [c] = (x, y, true)) := by
  by_cases h : c ∈ s
  · right
    obtain ⟨x, y, e, hx⟩ := List.eq_append_cons_of_mem h
    exact ⟨x, y, e, hx, by rw [e]; exact cut_one_hit y hx⟩
  · exact Or.inl ⟨h, cut_one_none h⟩
theorem preadL_nil' : preadL [] = none := by rfl
inductive SelIs (w : ByteArray) (s : Sel) : Prop where
  | star (h1 : w = W_star) (h2 : s = ⟨1, ByteArray.empty, Pf.zero⟩)
  | named (k nm : List UInt8) (h0 : w.data.toList = k ++ 58 :: nm) (h1 : kindN k ≠ 6) (h2 : 0 < kindN k) (h3 : labelL nm = true) (h4 : s = ⟨kindN k, ofL nm, Pf.zero⟩)
  | net (k t : List UInt8) (n : Pf) (h0 : w.data.toList = k ++ 58 :: t) (h1 : kindN k = 6) (h2 : preadL t = some n) (h3 : s = ⟨6, ByteArray.empty, n⟩)
theorem selP_is {w : ByteArray} {s : Sel} (h : selP w = some s) : SelIs w s := by
  unfold selP at h
  split at h
  · next e => injection h with h; exact .star e h.symm
  · simp only at h
    rcases cut_one w.data.toList 58 with ⟨_, e⟩ | ⟨x, y, e0, _, e⟩
    · rw [e] at h
      simp only [preadL_nil'] at h
      split at h
      · cases h
      · split at h
        · next hh => exact absurd hh.2 (by decide)
        · cases h
    · rw [e] at h
      simp only at h
      split at h
      · next h6 =>
        cases hp : preadL y with
        | none => rw [hp] at h; cases h
        | some n =>
          rw [hp] at h
          injection h with h
          exact .net x y n e0 h6 hp h.symm
      · next h6 =>
        split at h
        · next hh => injection h with h; exact .named x y e0 h6 hh.1 hh.2 h.symm
        · cases h
theorem kindN_cases {k : List UInt8} (h : 0 < kindN k) : (kindN k = 2 ∧ k = W_user.data.toList) ∨ (kindN k = 3 ∧ k = W_group.data.toList) ∨ (kindN k = 4 ∧ k = W_tag.data.toList) ∨ (kindN k = 5 ∧ k = W_host.data.toList) ∨ (kindN k = 6 ∧ k = W_net.data.toList) := by
  have inj : ∀ b : ByteArray, ofL k = b → k = b.data.toList := fun b e => by rw [← e]; rfl
  unfold kindN at h ⊢
  split
  · next e => exact Or.inl ⟨rfl, inj _ e⟩
  · split
    · next e => exact Or.inr (Or.inl ⟨rfl, inj _ e⟩)
    · split
      · next e => exact Or.inr (Or.inr (Or.inl ⟨rfl, inj _ e⟩))
      · split
        · next e => exact Or.inr (Or.inr (Or.inr (Or.inl ⟨rfl, inj _ e⟩)))
        · split
          · next e => exact Or.inr (Or.inr (Or.inr (Or.inr ⟨rfl, inj _ e⟩)))
          · next e1 e2 e3 e4 e5 => rw [if_neg e1, if_neg e2, if_neg e3, if_neg e4, if_neg e5] at h; cases h
theorem selT_of {w : ByteArray} {s : Sel} (h : selP w = some s) : ofL (selT s) = w := by
  cases selP_is h with
  | star h1 h2 => subst h1 h2; rfl
  | named k nm h0 h1 h2 h3 h4 =>
    subst h4
    have e : w = ofL (k ++ 58 :: nm) := by rw [← h0, ofL_back]
    rw [e]
    unfold selT
    rcases kindN_cases h2 with ⟨e1, e2⟩ | ⟨e1, e2⟩ | ⟨e1, e2⟩ | ⟨e1, e2⟩ | ⟨e1, e2⟩
    · simp only [e1]; rw [e2]; rfl
    · simp only [e1]; rw [e2]; rfl
    · simp only [e1]; rw [e2]; rfl
    · simp only [e1]; rw [e2]; rfl
    · exact absurd e1 h1
  | net k t n h0 h1 h2 h3 =>
    subst h3
    have e : w = ofL (k ++ 58 :: t) := by rw [← h0, ofL_back]
    rw [e]
    rcases kindN_cases (show 0 < kindN k by omega) with ⟨e1, e2⟩ | ⟨e1, e2⟩ | ⟨e1, e2⟩ | ⟨e1, e2⟩ | ⟨e1, e2⟩
    · omega
    · omega
    · omega
    · omega
    · unfold selT
      rw [e2]
      simp only
      rw [(preadL_some h2).1]
      rfl
theorem selP_again {w : ByteArray} {s : Sel} (h : selP w = some s) : selP (ofL (selT s)) = some s := by rw [selT_of h]; exact h
/- What stands in the text of an address, of a prefix. -/
theorem join_mem {sep : List UInt8} : ∀ (xs : List (List UInt8)) (c : UInt8), c ∈ Lib.join xs sep → c ∈ sep ∨ ∃ x ∈ xs, c ∈ x := by
  intro xs
  induction xs with
  | nil => intro c hc; cases hc
  | cons x r ih =>
    intro c hc
    cases r with
    | nil => rw [Lib.join_one] at hc; exact Or.inr ⟨x, List.mem_cons_self .., hc⟩
    | cons y r =>
      rw [join_two] at hc
      rcases List.mem_append.1 hc with hc | hc
      · exact Or.inr ⟨x, List.mem_cons_self .., hc⟩
      · rcases List.mem_append.1 hc with hc | hc
        · exact Or.inl hc
        · rcases ih c hc with e | ⟨z, hz, hc⟩
          · exact Or.inl e
          · exact Or.inr ⟨z, List.mem_cons_of_mem _ hz, hc⟩
theorem textL_chars (a : Ad) {c : UInt8} (h : c ∈ textL a) : isHex c = true ∨ c = 46 ∨ c = 58 := by
  unfold textL at h
  split at h
  · cases h
  · split at h
    · rcases join_mem _ _ h with e | ⟨x, hx, hc⟩
      · exact Or.inr (Or.inl (by simpa [dot] using e))
      · obtain ⟨y, _, rfl⟩ := List.mem_map.1 hx
        exact Or.inl (decL_is y c hc)
    · rcases text6_mem _ _ h with h | h
      · exact Or.inl h
      · exact Or.inr (Or.inr h)
theorem ptext_chars (p : Pf) {c : UInt8} (h : c ∈ ptext p) : isHex c = true ∨ c = 46 ∨ c = 58 ∨ c = 47 := by
  unfold ptext at h
  split at h
  · rcases List.mem_append.1 h with h | h
    · rcases textL_chars _ h with h | h | h
      · exact Or.inl h
      · exact Or.inr (Or.inl h)
      · exact Or.inr (Or.inr (Or.inl h))
    · rcases List.mem_cons.1 h with h | h
      · exact Or.inr (Or.inr (Or.inr h))
      · exact Or.inl (decL_is _ c h)
  · cases h
theorem hex_not {c d : UInt8} (h : isHex c = true) (hd : isHex d = false) : c ≠ d := by
  rintro rfl
  rw [h] at hd
  cases hd
theorem solid_of {c : UInt8} (h : c ≠ 32 ∧ c ≠ 9 ∧ c ≠ 10) : blank c = false ∧ c ≠ 10 := by
  unfold blank
  rw [decide_eq_false h.1, decide_eq_false h.2.1]
  exact ⟨rfl, h.2.2⟩
theorem hex_solid {c : UInt8} (h : isHex c = true) : c ≠ 32 ∧ c ≠ 9 ∧ c ≠ 10 ∧ c ≠ 35 := ⟨hex_not h (by decide), hex_not h (by decide), hex_not h (by decide), hex_not h (by decide)⟩
theorem ptext_solid (p : Pf) {c : UInt8} (h : c ∈ ptext p) : c ≠ 32 ∧ c ≠ 9 ∧ c ≠ 10 ∧ c ≠ 35 := by
  rcases ptext_chars p h with h | rfl | rfl | rfl
  · exact hex_solid h
  · decide
  · decide
  · decide
theorem plain_of {w : List UInt8} (h : ∀ c ∈ w, c ≠ 35) : plainWord w = true := by
  cases w with
  | nil => rfl
  | cons c r => exact decide_eq_true (h c (List.mem_cons_self ..))
theorem word_solid {w : List UInt8} (h0 : w ≠ []) (h : ∀ c ∈ w, c ≠ 32 ∧ c ≠ 9 ∧ c ≠ 10 ∧ c ≠ 35) : Word w :=
  ⟨h0, fun c hc => solid_of ⟨(h c hc).1, (h c hc).2.1, (h c hc).2.2.1⟩, plain_of fun c hc => (h c hc).2.2.2⟩
theorem ptext_word {p : Pf} (h : pmay p = true) : Word (ptext p) := word_solid (ptext_ne h) fun _ hc => ptext_solid p hc
theorem port_word (x : Nat × Nat) : Word (portT x) := by
  unfold portT
  refine word_solid (by simp [decL_ne]) fun c hc => ?_
  rcases List.mem_append.1 hc with h | h
  · exact hex_solid (decL_is _ c h)
  · split at h
    · rcases List.mem_cons.1 h with rfl | h
      · decide
      · exact hex_solid (decL_is _ c h)
    · cases h
theorem label_solid {s : List UInt8} (h : labelL s = true) {c : UInt8} (hc : c ∈ s) : c ≠ 32 ∧ c ≠ 9 ∧ c ≠ 10 ∧ c ≠ 35 :=
  have := (label_chars h).2 c hc
  ⟨labc_not this (by decide), labc_not this (by decide), labc_not this (by decide), labc_not this (by decide)⟩
theorem sel_word {s : Sel} (h : selP (ofL (selT s)) = some s) : Word (selT s) := by
  have h0 : selT s ≠ [] := selP_ne h
  refine word_solid h0 fun c hc => ?_
  have key : ∀ k nm : List UInt8, 0 < kindN k → (∀ d ∈ nm, d ≠ 32 ∧ d ≠ 9 ∧ d ≠ 10 ∧ d ≠ 35) → (ofL (selT s)).data.toList = k ++ 58 :: nm → c ≠ 32 ∧ c ≠ 9 ∧ c ≠ 10 ∧ c ≠ 35 := by
    intro k nm hk hn e
    rw [ofL_toList] at e
    rw [e] at hc
    rcases List.mem_append.1 hc with hc | hc
    · have : ∀ d ∈ k, d ≠ 32 ∧ d ≠ 9 ∧ d ≠ 10 ∧ d ≠ 35 := by
        rcases kindN_cases hk with ⟨_, e⟩ | ⟨_, e⟩ | ⟨_, e⟩ | ⟨_, e⟩ | ⟨_, e⟩ <;> (rw [e]; decide)
      exact this c hc
    · rcases List.mem_cons.1 hc with rfl | hc
      · decide
      · exact hn c hc
  cases selP_is h with
  | star h1 h2 => subst h2; rw [List.mem_singleton.1 (show c ∈ [42] from hc)]; decide
  | named k nm h0 h1 h2 h3 h4 => exact key k nm h2 (fun d hd => label_solid h3 hd) h0
  | net k t n h0 h1 h2 h3 => exact key k t (by omega) (fun d hd => by rw [← (preadL_some h2).1] at hd; exact ptext_solid n hd) h0
theorem protos_word {l : List Nat} (h : ∀ x ∈ l, protoOk x = true) : Word (protosT l) := by
  unfold protosT
  split
  · exact word_solid (by decide) (by decide)
  · next e =>
    refine word_solid ?_ ?_
    · cases l with
      | nil => exact absurd rfl e
      | cons x r =>
        cases r with
        | nil => rw [List.map_cons, List.map_nil, Lib.join_one]; exact protoT_ne x
        | cons y r => rw [List.map_cons, List.map_cons, join_two]; simp [protoT_ne x]
    · intro c hc
      rcases join_mem _ _ hc with e | ⟨x, hx, hc⟩
      · rw [List.mem_singleton.1 e]; decide
      · obtain ⟨y, _, rfl⟩ := List.mem_map.1 hx
        have := protoT_solid y c hc
        have hb := this.1
        unfold blank at hb
        simp only [Bool.or_eq_false_iff, decide_eq_false_iff_not] at hb
        exact ⟨hb.1, hb.2, this.2.1, this.2.2⟩
end Go.Proofs.YtbiglifngfgffaaGreatDoor
