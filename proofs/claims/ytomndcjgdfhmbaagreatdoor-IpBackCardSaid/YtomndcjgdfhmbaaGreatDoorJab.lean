/- Joined out of: TxD TxE GsA W Env Fb. -/
import Derived.Test.YtomndcjgdfhmbaaGreatDoorJaa
import Derived.WalkKit
import Derived.WalkSpells
import Derived.WalkLawsBesides
import Derived.Deep.Draws
import Derived.Lib.Hide
import Derived.Test.YtomndcjgdfhmbaaGreatDoorProg
import Derived.Lib.LaidTab
import Derived.Lib.AppendIntMem
import Derived.Lib.ItoaNum
import Derived.IntWalk
set_option linter.unusedVariables false
set_option linter.unusedSimpArgs false

/- Addresses read off texts: the document's guess; prefixes. -/
namespace Go.Proofs.YtomndcjgdfhmbaaGreatDoor

def digV (base : Nat) (l : List UInt8) : Nat := (digL base l).getD 0
def wideR (l : List (List UInt8)) : Nat := (l.filter fun t => !t.isEmpty).length
def fillR (wide : Nat) : List (List UInt8) → Bool → List Nat
  | [], _ => []
  | t :: r, filled => if t = [] then (if filled then [] else List.replicate (8 - wide) 0) ++ fillR wide r true else digV 16 t :: fillR wide r filled
def padR (p : List Nat) : List Nat := (p ++ List.replicate 8 0).take 8
def guessR (s : List UInt8) : Ad :=
  if (split1 46 s).length = 4 then ⟨false, 0, (split1 46 s).foldl (fun h t => h * 256 + digV 10 t % 256) 0⟩
  else ⟨true, fold16 ((padR (fillR (wideR (split1 58 s)) (split1 58 s) false)).take 4), fold16 ((padR (fillR (wideR (split1 58 s)) (split1 58 s) false)).drop 4)⟩
def readR (s : List UInt8) : Option Ad := if 60 < s.length then none else if textL (guessR s) = s ∧ s ≠ [] then some (guessR s) else none

theorem pval_lt {dv : UInt8 → Option Nat} {base : Nat} (hd : ∀ c d, dv c = some d → d < base) : ∀ (l : List UInt8) (acc B n : Nat), pval dv base acc l = some n → acc < B → n < B * base ^ l.length := by
  intro l
  induction l with
  | nil => intro acc B n h hb; simp [pval] at h; subst h; simpa using hb
  | cons c r ih =>
    intro acc B n h hb
    unfold pval at h
    split at h
    · cases h
    · next d he =>
      have h1 := hd c d he
      have h2 : acc * base + d < B * base := by
        have : (acc + 1) * base ≤ B * base := Nat.mul_le_mul_right _ hb
        rw [Nat.add_mul] at this
        omega
      have := ih _ _ _ h h2
      rw [List.length_cons, Nat.pow_succ, Nat.mul_comm (base ^ r.length), ← Nat.mul_assoc]
      exact this
theorem dvalR_lt (base : Nat) (c : UInt8) (d : Nat) (h : dvalR base c = some d) : d < base := by
  unfold dvalR at h
  split at h
  · split at h
    · cases h; assumption
    · cases h
  · split at h
    · split at h
      · cases h; assumption
      · cases h
    · cases h
theorem digL_lt {base n : Nat} (hb : 1 ≤ base) {l : List UInt8} (h : digL base l = some n) : n < base ^ 4 := by
  unfold digL at h
  split at h
  · cases h
  · next hn =>
    have := pval_lt (dvalR_lt base) l 0 1 n h (by decide)
    rw [Nat.one_mul] at this
    exact Nat.lt_of_lt_of_le this (Nat.pow_le_pow_right hb (by omega))
theorem digV_lt (base : Nat) (hb : 1 ≤ base) (l : List UInt8) : digV base l < base ^ 4 := by
  unfold digV
  cases h : digL base l with
  | none => exact Nat.pow_pos hb
  | some n => exact digL_lt hb h
theorem fillR_lt (wide : Nat) : ∀ (l : List (List UInt8)) (f : Bool), ∀ x ∈ fillR wide l f, x < 65536 := by
  intro l
  induction l with
  | nil => intro f x hx; cases hx
  | cons t r ih =>
    intro f x hx
    unfold fillR at hx
    split at hx
    · rcases List.mem_append.1 hx with hx | hx
      · cases f with
        | true => simp at hx
        | false => simp at hx; omega
      · exact ih _ x hx
    · rcases List.mem_cons.1 hx with hx | hx
      · rw [hx]; exact digV_lt 16 (by decide) t
      · exact ih _ x hx
theorem padR_length (p : List Nat) : (padR p).length = 8 := by unfold padR; rw [List.length_take]; simp
theorem padR_lt {p : List Nat} (h : ∀ x ∈ p, x < 65536) : ∀ x ∈ padR p, x < 65536 := by
  intro x hx
  unfold padR at hx
  rcases List.mem_append.1 (List.mem_of_mem_take hx) with hx | hx
  · exact h x hx
  · simp at hx; omega
theorem padR_eight {p : List Nat} (h : p.length = 8) : padR p = p := by unfold padR; rw [List.take_append_of_le_length (by omega), List.take_of_length_le (by omega)]
theorem guessR_ok (s : List UInt8) : (guessR s).Ok ∧ (guessR s).may = true := by
  unfold guessR
  split
  · next h4 =>
    have : ∀ (l : List (List UInt8)) (h0 B : Nat), h0 < B → l.foldl (fun h t => h * 256 + digV 10 t % 256) h0 < B * 256 ^ l.length := by
      intro l
      induction l with
      | nil => intro h0 B h; simpa using h
      | cons t r ih =>
        intro h0 B h
        have := ih (h0 * 256 + digV 10 t % 256) (B * 256) (by omega)
        rw [List.foldl_cons, List.length_cons, Nat.pow_succ, Nat.mul_comm (256 ^ r.length), ← Nat.mul_assoc]
        exact this
    have h2 := this (split1 46 s) 0 1 (by decide)
    rw [h4] at h2
    exact ⟨⟨by show (0 : Nat) < _; omega, by show List.foldl _ 0 _ < _; omega⟩, by simp [Ad.may]; omega⟩
  · have hl := padR_length (fillR (wideR (split1 58 s)) (split1 58 s) false)
    have hx := padR_lt (fillR_lt (wideR (split1 58 s)) (split1 58 s) false)
    have h1 := fold16_lt _ 0 1 (take_lt (k := 4) hx) (by decide)
    have h2 := fold16_lt _ 0 1 (drop_lt (k := 4) hx) (by decide)
    rw [List.length_take, hl] at h1
    rw [List.length_drop, hl] at h2
    exact ⟨⟨by simpa [fold16] using h1, by simpa [fold16] using h2⟩, rfl⟩

theorem fillR_hex (wide : Nat) (rest : List (List UInt8)) (f : Bool) : ∀ L : List Nat, (∀ x ∈ L, x < 65536) → fillR wide (L.map hexL ++ rest) f = L ++ fillR wide rest f := by
  intro L
  induction L with
  | nil => intro _; rfl
  | cons x r ih =>
    intro h
    rw [List.map_cons, List.cons_append]
    conv => lhs; unfold fillR
    rw [if_neg (hexL_ne x), ih fun y hy => h y (List.mem_cons_of_mem _ hy)]
    unfold digV
    rw [hexL_dig x (h x (List.mem_cons_self ..))]
    rfl
theorem fillR_hex' (wide : Nat) (f : Bool) (L : List Nat) (h : ∀ x ∈ L, x < 65536) : fillR wide (L.map hexL) f = L := by
  have := fillR_hex wide [] f L h
  rw [List.append_nil] at this
  rw [this]
  exact List.append_nil L
theorem wideR_hex (L : List Nat) : wideR (L.map hexL) = L.length := by
  unfold wideR
  rw [List.filter_eq_self.2]
  · simp
  · intro t ht
    obtain ⟨n, _, rfl⟩ := List.mem_map.1 ht
    cases e : hexL n with
    | nil => exact absurd e (hexL_ne n)
    | cons a l => rfl
theorem wideR_append (x y : List (List UInt8)) : wideR (x ++ y) = wideR x + wideR y := by simp [wideR]
theorem split_behind {y : List UInt8} : ∀ {L : List Nat}, L ≠ [] → split1 58 (joinH L ++ 58 :: y) = L.map hexL ++ split1 58 y := by
  intro L
  induction L with
  | nil => intro h; exact absurd rfl h
  | cons x r ih =>
    intro _
    cases r with
    | nil => rw [joinH_one, split1_hit _ (hexL_free x (by decide))]; rfl
    | cons z r =>
      rw [joinH_cons, List.append_assoc, List.cons_append, split1_hit _ (hexL_free x (by decide)), ih (by simp)]
      rfl
theorem split_front {y : List UInt8} (L : List Nat) : ∃ m, split1 58 (joinH L ++ 58 :: 58 :: y) = L.map hexL ++ (List.replicate m [] ++ split1 58 y) ∧ 1 ≤ m := by
  have e1 : split1 58 (58 :: y) = [] :: split1 58 y := split1_hit (x := []) y (by simp)
  cases L with
  | nil =>
    refine ⟨2, ?_, by omega⟩
    rw [joinH_nil, List.nil_append]
    have e2 : split1 58 (58 :: 58 :: y) = [] :: split1 58 (58 :: y) := split1_hit (x := []) _ (by simp)
    rw [e2, e1]
    rfl
  | cons x r =>
    refine ⟨1, ?_, by omega⟩
    rw [split_behind (by simp), e1]
    rfl
theorem split_back (L : List Nat) : ∃ m, split1 58 (joinH L) = List.replicate m [] ++ L.map hexL := by
  cases L with
  | nil => exact ⟨1, rfl⟩
  | cons x r => exact ⟨0, by rw [split_joinH (by simp)]; rfl⟩
theorem fillR_void (wide : Nat) (rest : List (List UInt8)) : ∀ m : Nat, fillR wide (List.replicate m [] ++ rest) true = fillR wide rest true := by
  intro m
  induction m with
  | zero => rfl
  | succ m ih =>
    rw [List.replicate_succ, List.cons_append]
    unfold fillR
    rw [if_pos rfl, if_pos rfl, ih]
    cases rest <;> rfl
theorem wideR_void (m : Nat) : wideR (List.replicate m ([] : List UInt8)) = 0 := by
  unfold wideR
  induction m with
  | zero => rfl
  | succ m ih => rw [List.replicate_succ]; simp

theorem fill_text6 (a : Ad) : fillR (wideR (split1 58 (text6 (pieceL a)))) (split1 58 (text6 (pieceL a))) false = pieceL a := by
  unfold text6
  split
  · rw [split_joinH (by simp [pieceL])]
    exact fillR_hex' _ _ _ (pieceL_lt a)
  · next h =>
    have h0 : 0 ≤ (best (pieceL a)).1 := by omega
    have ok2 := best_ok (pieceL a)
    have h1 := ok2.two h0
    have h2 := ok2.le h0
    have e := best_split h0
    rw [pieceL_length] at h2
    have eA : ((pieceL a).take (best (pieceL a)).1.toNat).length = (best (pieceL a)).1.toNat := by rw [List.length_take, pieceL_length]; omega
    have eB : ((pieceL a).drop ((best (pieceL a)).1.toNat + (best (pieceL a)).2)).length = 8 - ((best (pieceL a)).1.toNat + (best (pieceL a)).2) := by rw [List.length_drop, pieceL_length]
    have hA : ∀ x ∈ (pieceL a).take (best (pieceL a)).1.toNat, x < 65536 := take_lt (pieceL_lt a)
    have hB : ∀ x ∈ (pieceL a).drop ((best (pieceL a)).1.toNat + (best (pieceL a)).2), x < 65536 := drop_lt (pieceL_lt a)
    generalize (pieceL a).take (best (pieceL a)).1.toNat = A at *
    generalize (pieceL a).drop ((best (pieceL a)).1.toNat + (best (pieceL a)).2) = B at *
    obtain ⟨m, em, hm⟩ := split_front (y := joinH B) A
    obtain ⟨m2, em2⟩ := split_back B
    rw [em, em2]
    obtain ⟨k, rfl⟩ : ∃ k, m = k + 1 := ⟨m - 1, by omega⟩
    rw [fillR_hex _ _ _ A hA, List.replicate_succ, List.cons_append]
    conv => lhs; rhs; unfold fillR
    rw [if_pos rfl, if_neg (by decide), fillR_void, fillR_void, fillR_hex' _ _ B hB]
    rw [wideR_append, ← List.cons_append, ← List.replicate_succ, wideR_append, wideR_void, wideR_append, wideR_void, wideR_hex, wideR_hex, eA, eB]
    rw [show 8 - ((best (pieceL a)).1.toNat + (0 + (0 + (8 - ((best (pieceL a)).1.toNat + (best (pieceL a)).2))))) = (best (pieceL a)).2 by omega, ← List.append_assoc]
    exact e.symm

theorem guessR_text {a : Ad} (ok : a.Ok) (hm : a.may = true) : guessR (textL a) = a := by
  unfold guessR
  cases h6 : a.v6 with
  | true =>
    rw [textL_6 h6, split1_none (text6_nodot _), if_neg (by simp), fill_text6, padR_eight (pieceL_length a), fold_hi ok, fold_lo ok]
    cases a; simp at h6; rw [h6]
  | false =>
    obtain ⟨h0, h1⟩ := may4 hm h6
    rw [textL_4 hm h6, split_text4, if_pos (by simp [lo4])]
    have e : ((lo4 a.lo).map Lib.decDigits).foldl (fun h t => h * 256 + digV 10 t % 256) 0 = a.lo := by
      have hl := lo4_lt a.lo
      have hd : ∀ x ∈ lo4 a.lo, digV 10 (Lib.decDigits x) % 256 = x := by
        intro x hx
        have := hl x hx
        unfold digV
        rw [decL_dig x (by omega)]
        show x % 256 = x
        omega
      rw [List.foldl_map]
      have : ∀ (l : List Nat) (h : Nat), (∀ x ∈ l, digV 10 (Lib.decDigits x) % 256 = x) → l.foldl (fun h x => h * 256 + digV 10 (Lib.decDigits x) % 256) h = l.foldl (fun h x => h * 256 + x) h := by
        intro l
        induction l with
        | nil => intro h _; rfl
        | cons x r ih =>
          intro h hx
          rw [List.foldl_cons, List.foldl_cons, hx x (List.mem_cons_self ..), ih _ fun y hy => hx y (List.mem_cons_of_mem _ hy)]
      rw [this _ _ hd]
      exact fold8_lo4 h1
    rw [e]
    cases a; simp at h6 h0; rw [h6, h0]

/- How long texts are. -/
theorem joinH_len : ∀ L : List Nat, (∀ x ∈ L, x < 65536) → (joinH L).length ≤ 5 * L.length := by
  intro L
  induction L with
  | nil => intro _; simp [joinH_nil]
  | cons x r ih =>
    intro h
    have hx := hexL_len x (h x (List.mem_cons_self ..))
    cases r with
    | nil => rw [joinH_one]; simp; omega
    | cons y r =>
      have := ih fun z hz => h z (List.mem_cons_of_mem _ hz)
      rw [joinH_cons]
      simp only [List.length_append, List.length_cons] at *
      omega
theorem textL_len (a : Ad) : (textL a).length ≤ 60 := by
  unfold textL
  split
  · simp
  · split
    · have h := lo4_lt a.lo
      have : ∀ x ∈ lo4 a.lo, (Lib.decDigits x).length ≤ 3 := fun x hx => decL_len x (by have := h x hx; omega)
      unfold text4
      simp only [lo4, List.map_cons, List.map_nil, join_two, Lib.join_one, List.length_append] at *
      have a1 := this _ (List.mem_cons_self ..)
      have a2 := this _ (List.mem_cons_of_mem _ (List.mem_cons_self ..))
      have a3 := this _ (List.mem_cons_of_mem _ (List.mem_cons_of_mem _ (List.mem_cons_self ..)))
      have a4 := this _ (List.mem_cons_of_mem _ (List.mem_cons_of_mem _ (List.mem_cons_of_mem _ (List.mem_cons_self ..))))
      simp only [dot, List.length_singleton]
      omega
    · unfold text6
      split
      · have := joinH_len _ (pieceL_lt a)
        rw [pieceL_length] at this
        omega
      · have h1 := joinH_len _ (take_lt (k := (best (pieceL a)).1.toNat) (pieceL_lt a))
        have h2 := joinH_len _ (drop_lt (k := (best (pieceL a)).1.toNat + (best (pieceL a)).2) (pieceL_lt a))
        rw [List.length_take, pieceL_length] at h1
        rw [List.length_drop, pieceL_length] at h2
        simp only [List.length_append, List.length_cons]
        omega

theorem readR_eq (s : List UInt8) : readR s = readL s := by
  unfold readR
  split
  · next h =>
    cases e : readL s with
    | none => rfl
    | some a =>
      have h1 := (readL_some e).1
      have h2 := textL_len a
      rw [h1] at h2
      omega
  · split
    · next h =>
      have ok := guessR_ok s
      have := read_text ok.1 ok.2
      rw [h.1] at this
      rw [this]
    · next h =>
      cases e : readL s with
      | none => rfl
      | some a =>
        obtain ⟨h1, h2, h3⟩ := readL_some e
        refine absurd ?_ h
        subst h1
        rw [guessR_text h2 h3]
        exact ⟨rfl, textL_ne h3⟩
theorem readL_text_iff {s : List UInt8} {a : Ad} : readL s = some a ↔ textL a = s ∧ a.Ok ∧ a.may = true :=
  ⟨readL_some, fun ⟨h1, h2, h3⟩ => by rw [← h1]; exact read_text h2 h3⟩
end Go.Proofs.YtomndcjgdfhmbaaGreatDoor

/- Prefixes: the plain law. -/
namespace Go.Proofs.YtomndcjgdfhmbaaGreatDoor

def Ad.size (a : Ad) : Nat := if a.v6 then 128 else 32
def Ad.val (a : Ad) : Nat := if a.v6 then a.hi * 2 ^ 64 + a.lo else a.lo
def pmay (p : Pf) : Bool := p.a.may && decide (p.bits ≤ p.a.size) && decide (p.a.val % 2 ^ (p.a.size - p.bits) = 0)
def ptext (p : Pf) : List UInt8 := if pmay p = true then textL p.a ++ 47 :: Lib.decDigits p.bits else []
def holdsP (p : Pf) (a : Ad) : Bool := pmay p && a.may && (p.a.v6 == a.v6) && decide (a.val / 2 ^ (p.a.size - p.bits) = p.a.val / 2 ^ (p.a.size - p.bits))
def lessA (a b : Ad) : Bool := if a.v6 != b.v6 then b.v6 else if a.hi ≠ b.hi then decide (a.hi < b.hi) else decide (a.lo < b.lo)

/- The program's way to read a prefix, and the document's. -/
def preadL (s : List UInt8) : Option Pf :=
  if (Lib.cut s [47]).2.2 = false then none
  else match readL (Lib.cut s [47]).1, num1 10 256 (Lib.cut s [47]).2.1 with
    | some a, some n => if ptext ⟨a, n⟩ = s then some ⟨a, n⟩ else none
    | _, _ => none
def preadR (s : List UInt8) : Option Pf :=
  if (split1 47 s).length ≠ 2 then none
  else match readL ((split1 47 s).getD 0 []), digL 10 ((split1 47 s).getD 1 []) with
    | some a, some n => if 128 < n then none else if ptext ⟨a, n⟩ = s then some ⟨a, n⟩ else none
    | _, _ => none

theorem pmay_may {p : Pf} (h : pmay p = true) : p.a.may = true ∧ p.bits ≤ p.a.size := by
  unfold pmay at h
  simp only [Bool.and_eq_true, decide_eq_true_eq] at h
  exact h.1
theorem size_le (a : Ad) : a.size ≤ 128 := by unfold Ad.size; split <;> omega
theorem textL_noslash (a : Ad) : (47 : UInt8) ∉ textL a := by
  intro h
  unfold textL at h
  split at h
  · cases h
  · split at h
    · have : ∀ (xs : List (List UInt8)) (c : UInt8), c ∈ Lib.join xs dot → c = 46 ∨ ∃ x ∈ xs, c ∈ x := by
        intro xs
        induction xs with
        | nil => intro c hc; cases hc
        | cons x r ih =>
          intro c hc
          cases r with
          | nil => rw [Lib.join_one] at hc; exact Or.inr ⟨x, List.mem_cons_self .., hc⟩
          | cons y r =>
            rw [join_two] at hc
            rcases List.mem_append.1 hc with hc | hc
            · exact Or.inr ⟨x, List.mem_cons_self .., hc⟩
            · rcases List.mem_append.1 hc with hc | hc
              · exact Or.inl (by simpa [dot] using hc)
              · rcases ih c hc with e | ⟨z, hz, hc⟩
                · exact Or.inl e
                · exact Or.inr ⟨z, List.mem_cons_of_mem _ hz, hc⟩
      rcases this _ _ h with e | ⟨x, hx, hc⟩
      · exact absurd e (by decide)
      · exact dec_free (c := 47) (by decide) _ x hx hc
    · rcases text6_mem _ _ h with h | h
      · exact absurd h (by decide)
      · exact absurd h (by decide)
theorem ptext_ne {p : Pf} (h : pmay p = true) : ptext p ≠ [] := by unfold ptext; rw [if_pos h]; simp
theorem ptext_of {p : Pf} (h : ptext p ≠ []) : pmay p = true := by
  unfold ptext at h
  split at h
  · assumption
  · exact absurd rfl h

theorem preadL_text {p : Pf} (ok : p.Ok) (h : pmay p = true) : preadL (ptext p) = some p := by
  have h1 := pmay_may h
  have e : ptext p = textL p.a ++ 47 :: Lib.decDigits p.bits := by unfold ptext; rw [if_pos h]
  unfold preadL
  have hc : Lib.cut (ptext p) [47] = (textL p.a, Lib.decDigits p.bits, true) := by rw [e]; exact cut_one_hit _ (textL_noslash _)
  rw [hc]
  simp only
  rw [if_neg (by decide), read_text ok.a h1.1, decL_num p.bits ok.bits]
  simp
theorem preadL_some {s : List UInt8} {p : Pf} (h : preadL s = some p) : ptext p = s ∧ p.Ok ∧ pmay p = true := by
  unfold preadL at h
  split at h
  · cases h
  · next hn =>
    split at h
    · next a n ha hb =>
      split at h
      · next ht =>
        cases h
        have hs : s ≠ [] := by rintro rfl; exact hn rfl
        exact ⟨ht, ⟨(readL_some ha).2.1, num1_lt hb⟩, ptext_of (by rw [ht]; exact hs)⟩
      · cases h
    · cases h
theorem preadR_eq (s : List UInt8) : preadR s = preadL s := by
  cases e : preadL s with
  | some p =>
    obtain ⟨h1, h2, h3⟩ := preadL_some e
    subst h1
    have h4 := pmay_may h3
    have h5 := size_le p.a
    have et : ptext p = textL p.a ++ 47 :: Lib.decDigits p.bits := by unfold ptext; rw [if_pos h3]
    have es : split1 47 (ptext p) = [textL p.a, Lib.decDigits p.bits] := by rw [et, split1_hit _ (textL_noslash _), split1_none (decL_free _ (by decide))]
    unfold preadR
    rw [es]
    simp only [List.getD_cons_zero, List.getD_cons_succ, List.length_cons, List.length_nil]
    rw [if_neg (by decide), read_text h2.a h4.1, decL_dig p.bits (by omega)]
    simp only
    rw [if_neg (by omega)]
    simp
  | none =>
    unfold preadR
    split
    · rfl
    · next hl =>
      split
      · next a n ha hb =>
        split
        · rfl
        · split
          · next ht =>
            have hs : s ≠ [] := by rintro rfl; exact hl (by decide)
            have h3 := ptext_of (p := ⟨a, n⟩) (by rw [ht]; exact hs)
            have := preadL_text (p := ⟨a, n⟩) ⟨(readL_some ha).2.1, by show n < 256; omega⟩ h3
            rw [ht, e] at this
            cases this
          · rfl
      · rfl
end Go.Proofs.YtomndcjgdfhmbaaGreatDoor

/- The document's guess, step by step: the plain law. -/
namespace Go.Proofs.YtomndcjgdfhmbaaGreatDoor

theorem fold16_app0 (l : List Nat) : ∀ m, fold16 (l ++ List.replicate m 0) = fold16 l * 65536 ^ m := by
  intro m
  induction m with
  | zero => simp
  | succ m ih =>
    rw [List.replicate_succ', ← List.append_assoc]
    unfold fold16 at ih ⊢
    rw [List.foldl_append, ih]
    simp [Nat.pow_succ, Nat.mul_assoc]
theorem lor_shift {A x m : Nat} (hx : x < 65536) : A * 65536 ^ (m + 1) ||| x * 65536 ^ m = (A * 65536 + x) * 65536 ^ m := by
  have e : (65536 : Nat) ^ m = 2 ^ (16 * m) := by rw [Nat.pow_mul]
  have h := Nat.shiftLeft_add_eq_or_of_lt (i := 16) (b := x) (by omega) A
  rw [Nat.shiftLeft_eq, show (2 : Nat) ^ 16 = 65536 from rfl] at h
  rw [Nat.pow_succ, Nat.mul_comm (65536 ^ m) 65536, ← Nat.mul_assoc, h, e, ← Nat.shiftLeft_eq, ← Nat.shiftLeft_eq, ← Nat.shiftLeft_eq, Nat.shiftLeft_or_distrib]
/- How far the halves are, behind i numbers. -/
def hiAt (p : List Nat) (i : Nat) : Nat := fold16 ((p.take i).take 4) * 65536 ^ (4 - i)
def loAt (p : List Nat) (i : Nat) : Nat := fold16 ((p.take i).drop 4) * 65536 ^ (8 - (if i < 4 then 4 else i))
theorem fold16_last (l : List Nat) (x : Nat) : fold16 (l ++ [x]) = fold16 l * 65536 + x := by unfold fold16; rw [List.foldl_append]; rfl
theorem take_snoc_nat {p : List Nat} {i : Nat} (hi : i < p.length) : p.take (i + 1) = p.take i ++ [p.getD i 0] := by
  rw [List.take_succ_eq_append_getElem hi, List.getD_eq_getElem?_getD, List.getElem?_eq_getElem hi]
  rfl
theorem fold16_pow {l : List Nat} (h : ∀ x ∈ l, x < 65536) : fold16 l < 65536 ^ l.length := by
  have := fold16_lt l 0 1 h (by decide)
  rwa [Nat.one_mul] at this
theorem hi_step {p : List Nat} {i : Nat} (hp : ∀ x ∈ p, x < 65536) (hi : i < p.length) (h4 : i < 4) : hiAt p i ||| p.getD i 0 * 65536 ^ (3 - i) = hiAt p (i + 1) ∧ loAt p i = loAt p (i + 1) ∧ hiAt p i < 18446744073709551616 ∧ p.getD i 0 * 65536 ^ (3 - i) < 18446744073709551616 := by
  have hx : p.getD i 0 < 65536 := by
    rw [List.getD_eq_getElem?_getD, List.getElem?_eq_getElem hi]
    exact hp _ (List.getElem_mem hi)
  have hl : (p.take i).length = i := by rw [List.length_take]; omega
  have hb := fold16_pow (take_lt hp (k := i))
  rw [hl] at hb
  have e1 : (p.take i).take 4 = p.take i := List.take_of_length_le (by omega)
  have e2 : (p.take (i + 1)).take 4 = p.take (i + 1) := List.take_of_length_le (by rw [List.length_take]; omega)
  have h2 : fold16 (p.take i) * 65536 ^ (4 - i) < 18446744073709551616 := by
    have : fold16 (p.take i) * 65536 ^ (4 - i) < 65536 ^ i * 65536 ^ (4 - i) := Nat.mul_lt_mul_of_pos_right hb (Nat.pow_pos (by decide))
    rw [← Nat.pow_add, show i + (4 - i) = 4 by omega] at this
    exact this
  refine ⟨?_, ?_, by unfold hiAt; rw [e1]; exact h2, ?_⟩
  · unfold hiAt
    rw [e1, e2, show 4 - i = (3 - i) + 1 by omega, lor_shift hx, take_snoc_nat hi, fold16_last, show 4 - (i + 1) = 3 - i by omega]
  · unfold loAt
    rw [List.drop_of_length_le (by omega), List.drop_of_length_le (by rw [List.length_take]; omega)]
    simp [fold16]
  · have : p.getD i 0 * 65536 ^ (3 - i) < 65536 * 65536 ^ (3 - i) := Nat.mul_lt_mul_of_pos_right hx (Nat.pow_pos (by decide))
    have h3 : 65536 * 65536 ^ (3 - i) ≤ 65536 * 65536 ^ 3 := Nat.mul_le_mul_left _ (Nat.pow_le_pow_right (by decide) (by omega))
    omega
theorem lo_step {p : List Nat} {i : Nat} (hp : ∀ x ∈ p, x < 65536) (hi : i < p.length) (h4 : 4 ≤ i) (h8 : i < 8) : loAt p i ||| p.getD i 0 * 65536 ^ (7 - i) = loAt p (i + 1) ∧ hiAt p i = hiAt p (i + 1) ∧ loAt p i < 18446744073709551616 ∧ p.getD i 0 * 65536 ^ (7 - i) < 18446744073709551616 := by
  have hx : p.getD i 0 < 65536 := by
    rw [List.getD_eq_getElem?_getD, List.getElem?_eq_getElem hi]
    exact hp _ (List.getElem_mem hi)
  have hl : ((p.take i).drop 4).length = i - 4 := by rw [List.length_drop, List.length_take]; omega
  have hb := fold16_pow (drop_lt (take_lt hp (k := i)) (k := 4))
  rw [hl] at hb
  have h2 : fold16 ((p.take i).drop 4) * 65536 ^ (8 - i) < 18446744073709551616 := by
    have : fold16 ((p.take i).drop 4) * 65536 ^ (8 - i) < 65536 ^ (i - 4) * 65536 ^ (8 - i) := Nat.mul_lt_mul_of_pos_right hb (Nat.pow_pos (by decide))
    rw [← Nat.pow_add, show i - 4 + (8 - i) = 4 by omega] at this
    exact this
  refine ⟨?_, ?_, by unfold loAt; rw [if_neg (by omega)]; exact h2, ?_⟩
  · unfold loAt
    rw [if_neg (by omega), if_neg (by omega), show 8 - i = (7 - i) + 1 by omega, lor_shift hx, take_snoc_nat hi, List.drop_append_of_le_length (by rw [List.length_take]; omega), fold16_last, show 8 - (i + 1) = 7 - i by omega]
  · unfold hiAt
    rw [take_snoc_nat hi, List.take_append_of_le_length (by rw [List.length_take]; omega), show 4 - (i + 1) = 4 - i by omega]
  · have : p.getD i 0 * 65536 ^ (7 - i) < 65536 * 65536 ^ (7 - i) := Nat.mul_lt_mul_of_pos_right hx (Nat.pow_pos (by decide))
    have h3 : 65536 * 65536 ^ (7 - i) ≤ 65536 * 65536 ^ 3 := Nat.mul_le_mul_left _ (Nat.pow_le_pow_right (by decide) (by omega))
    omega
theorem at_end (p : List Nat) (i : Nat) (hi : i ≤ 8) (hip : i ≤ p.length) (he : i = 8 ∨ p.length ≤ i) : hiAt p i = fold16 ((padR p).take 4) ∧ loAt p i = fold16 ((padR p).drop 4) := by
  have hl : (p.take i).length = i := by rw [List.length_take]; omega
  have hpad : padR p = p.take i ++ List.replicate (8 - i) 0 := by
    unfold padR
    rw [List.take_append, List.take_replicate]
    rcases he with rfl | he
    · rw [show min (8 - p.length) 8 = 8 - 8 by omega]
    · have : i = p.length := by omega
      subst this
      rw [List.take_of_length_le (show p.length ≤ 8 by omega), List.take_of_length_le (Nat.le_refl _), show min (8 - p.length) 8 = 8 - p.length by omega]
  rw [hpad]
  unfold hiAt loAt
  generalize p.take i = q at hl ⊢
  constructor
  · rw [List.take_append, hl, List.take_replicate]
    by_cases h : i ≤ 4
    · rw [List.take_of_length_le (show q.length ≤ 4 by omega), fold16_app0, show min (4 - i) (8 - i) = 4 - i by omega]
    · rw [show min (4 - i) (8 - i) = 0 by omega, show 4 - i = 0 by omega]
      simp
  · rw [List.drop_append, hl, List.drop_replicate, fold16_app0]
    split
    · next h =>
      rw [List.drop_of_length_le (by omega)]
      simp [fold16]
    · next h => rw [show 8 - i - (4 - i) = 8 - i by omega]
end Go.Proofs.YtomndcjgdfhmbaaGreatDoor

/- Words for memory, for every walk of this seat: a block known whole, and a frame that lets a set of blocks turn. -/
namespace Go.Proofs.YtomndcjgdfhmbaaGreatDoor
open Go.RowKit

def Blk (w : World) (g : Nat) (t : TypeId) (cs : Array Value) : Prop := w.heap[g]? = some (.cells cs t (0, 0))

section
variable {w w' : World} {g : Nat} {t : TypeId} {cs : Array Value}
theorem Blk.lt (h : Blk w g t cs) : g < w.heap.size := by
  rcases Nat.lt_or_ge g w.heap.size with hlt | hge
  · exact hlt
  · unfold Blk at h; rw [Array.getElem?_eq_none hge] at h; cases h
theorem Blk.cell (h : Blk w g t cs) (i : Nat) : w.cell? ⟨g, i, none⟩ = cs[i]? := cell_of_row w g i cs t (0, 0) h
theorem Blk.frozen (h : Blk w g t cs) (i : Nat) : w.frozen? ⟨g, i, none⟩ = false := by
  unfold Blk at h
  simp [World.frozen?, h]
theorem Blk.new (w : World) (t : TypeId) (cs : Array Value) : Blk (w.alloc (.cells cs t)) w.heap.size t cs := heap_alloc_new w _
theorem Blk.drew (h : Blk w g t cs) : Blk w.drew g t cs := h
theorem Blk.drewN (h : Blk w g t cs) (n : Nat) : Blk (w.drewN n) g t cs := h
theorem Blk.alloc (h : Blk w g t cs) (o : Obj) : Blk (w.alloc o) g t cs := (Below.heap_alloc w o g h.lt).trans h
theorem Blk.set_ (h : Blk w g t cs) (i : Nat) (u : Value) : Blk (w.setCell ⟨g, i, none⟩ u) g t (cs.setIfInBounds i u) := by
  unfold Blk at h ⊢
  simp [World.setCell, Array.getElem?_modify, h]
theorem Blk.far (h : Blk w g t cs) {p : Addr} (hp : g ≠ p.block) (u : Value) : Blk (w.setCell p u) g t cs := (Below.heap_setCell w p u g hp).trans h
theorem Blk.below {B : Nat} (h : Blk w g t cs) (hb : Below B w w') (hg : g < B) : Blk w' g t cs := (hb.block g hg).trans h
theorem Blk.grown {row : Option Nat} (h : Blk w g t cs) (hb : w.grownBy w' row) (hg : some g ≠ row) : Blk w' g t cs := (hb.block g h.lt hg).trans h
theorem Blk.ne_ {g' : Nat} {t' : TypeId} {cs' : Array Value} (h : Blk w g t cs) (h' : Blk w g' t' cs') (hne : t ≠ t') : g ≠ g' := by
  rintro rfl
  unfold Blk at h h'
  rw [h] at h'
  injection h' with h'
  injection h' with _ ht
  exact hne ht
end

/-- Only the blocks of S, and new ones, may have turned. -/
structure Keeps (S : Nat → Prop) (w w' : World) : Prop where
  os : w'.os = w.os
  tape : w'.tape = w.tape
  output : w'.output = w.output
  size : w.heap.size ≤ w'.heap.size
  block : ∀ k, k < w.heap.size → ¬ S k → w'.heap[k]? = w.heap[k]?

section
variable {S T : Nat → Prop} {a b c w w' : World}
theorem Keeps.refl (S : Nat → Prop) (w : World) : Keeps S w w := ⟨rfl, rfl, rfl, Nat.le_refl _, fun _ _ _ => rfl⟩
theorem Keeps.trans (h : Keeps S a b) (k : Keeps S b c) : Keeps S a c :=
  ⟨k.os.trans h.os, k.tape.trans h.tape, k.output.trans h.output, Nat.le_trans h.size k.size, fun i hi hs => (k.block i (Nat.lt_of_lt_of_le hi h.size) hs).trans (h.block i hi hs)⟩
theorem Keeps.mono (h : Keeps S a b) (hst : ∀ k, k < a.heap.size → S k → T k) : Keeps T a b := ⟨h.os, h.tape, h.output, h.size, fun k hk hT => h.block k hk fun hs => hT (hst k hk hs)⟩
theorem Keeps.drew (h : Keeps S a w) : Keeps S a w.drew := ⟨h.os, h.tape, h.output, h.size, h.block⟩
theorem Keeps.drewN (h : Keeps S a w) (n : Nat) : Keeps S a (w.drewN n) := ⟨h.os, h.tape, h.output, h.size, h.block⟩
theorem Keeps.alloc (h : Keeps S a w) (o : Obj) : Keeps S a (w.alloc o) :=
  ⟨h.os, h.tape, h.output, Nat.le_trans h.size (by simp), fun i hi hs => (Below.heap_alloc w o i (Nat.lt_of_lt_of_le hi h.size)).trans (h.block i hi hs)⟩
theorem Keeps.setCell (h : Keeps S a w) {p : Addr} (hp : S p.block ∨ a.heap.size ≤ p.block) (u : Value) : Keeps S a (w.setCell p u) :=
  ⟨h.os, h.tape, h.output, by simpa [World.setCell] using h.size, fun i hi hs => (Below.heap_setCell w p u i (by
    rintro rfl
    rcases hp with hp | hp
    · exact hs hp
    · omega)).trans (h.block i hi hs)⟩
theorem Keeps.of_below {B : Nat} (h : Below B a b) (hS : ∀ k, k < a.heap.size → ¬ S k → k < B) : Keeps S a b := ⟨h.os, h.tape, h.output, h.size, fun i hi hs => h.block i (hS i hi hs)⟩
theorem Keeps.below {B : Nat} (h : Keeps S a b) (hS : ∀ k, S k → B ≤ k) (hB : B ≤ a.heap.size) : Below B a b := ⟨h.os, h.tape, h.output, h.size, fun k hk => h.block k (by omega) fun hs => by have := hS k hs; omega⟩
theorem Keeps.of_grown {row : Option Nat} (h : a.grownBy b row) (hS : ∀ k, row = some k → S k) : Keeps S a b := ⟨h.os, h.tape, h.output, h.size, fun k hk hs => h.block k hk fun e => hs (hS k e.symm)⟩
theorem Blk.keep {g : Nat} {t : TypeId} {cs : Array Value} (h : Blk w g t cs) (hk : Keeps S w w') (hg : ¬ S g) : Blk w' g t cs := (hk.block g h.lt hg).trans h

theorem Keeps.below_drewN {B n : Nat} (h : Keeps S (a.drewN n) b) (hS : ∀ k, S k → B ≤ k) (hB : B ≤ a.heap.size) : Below B a b :=
  have k := h.below hS (show B ≤ (a.drewN n).heap.size from hB)
  ⟨k.os, k.tape, k.output, k.size, k.block⟩
end

theorem cell_far {w : World} {a c : Addr} {u : Value} (h : a.block ≠ c.block) : (w.setCell a u).cell? c = w.cell? c :=
  World.cell?_setCell_other w a c u (fun e => h (by rw [e]))

/- A cell below the call's own rows, behind an append of one element. -/
theorem append_cell {w2 w3 : World} {base size n : Nat} {e : TypeId} {v u : Value} {xs : List Value} {o : Obj} {a : Addr} (hown : w2.ownsRow base e size v n xs) (hg : (w2.alloc o).grownBy w3 v.ownBlock) (hc : w2.cell? a = some u) (ha : a.block < base) : w3.cell? a = some u :=
  hg.cell ((World.cell?_alloc_lt w2 o a (World.block_lt_of_cell? w2 a hc)).trans hc) (fun e => by have := (hown.lt _ e.symm).1; omega)

end Go.Proofs.YtomndcjgdfhmbaaGreatDoor

/- The library's variables that the walks read: kept by whatever leaves old blocks alone. -/
namespace Go.Proofs.YtomndcjgdfhmbaaGreatDoor
open Go.RowKit

structure Env (w : World) : Prop where
  mx : ∃ m : Int, w.cell? ⟨0, 0, none⟩ = some (.int .i64 m)
  pow : Lib.TabIs Tryz.prog w "internal/strconv.uint64pow10" .u64 Lib.pow10Tab
  db : w.cell? ⟨5, 15, none⟩ = some (.int .u8 4)
  es : ∃ (tp : TypeId) (p : Value), w.cell? ⟨2, 0, none⟩ = some (.iface tp p)
  er : ∃ (tp : TypeId) (p : Value), w.cell? ⟨3, 0, none⟩ = some (.iface tp p)
theorem Env.below {w w' : World} (h : Env w) (hb : Below w.heap.size w w') : Env w' := by
  have c : ∀ {i o : Nat} {v : Value}, w.cell? ⟨i, o, none⟩ = some v → w'.cell? ⟨i, o, none⟩ = some v := fun {i o v} hv => (hb.cell (p := ⟨i, o, none⟩) (World.block_lt_of_cell? w _ hv)).trans hv
  obtain ⟨m, hm⟩ := h.mx
  obtain ⟨t1, p1, h1⟩ := h.es
  obtain ⟨t2, p2, h2⟩ := h.er
  exact ⟨⟨m, c hm⟩, Lib.tabBelow_of_tabIs h.pow w' hb, c h.db, ⟨t1, p1, c h1⟩, ⟨t2, p2, c h2⟩⟩
end Go.Proofs.YtomndcjgdfhmbaaGreatDoor

/- strconv.FormatUint of base 16: the walk. -/
namespace Go.Proofs.YtomndcjgdfhmbaaGreatDoor
open Go.RowKit

theorem tz64 {w : World} (h : w.cell? ⟨5, 15, none⟩ = some (.int .u8 4)) : Calls Tryz.prog 128 #[.int .u64 16] w fun e w' => e = .returned (.int .i64 4) ∧ w = w' := by
  have e1 : IntKind.u64.wrap (bits BinOp.and IntKind.u64 16 (IntKind.u64.wrap (-16)) * 285870213051353865) / 288230376151711744 = 15 := by kernel_rfl
  go_enter Tryz.func128, Tryz.ntmps128
  go_wp2_with fail
  go_ret
  exact ⟨rfl, rfl⟩
theorem tz_ {w : World} (h : w.cell? ⟨5, 15, none⟩ = some (.int .u8 4)) : Calls Tryz.prog 119 #[.int .u64 16] w fun e w' => e = .returned (.int .i64 4) ∧ w = w' := by
  have H := Lib.hid h
  clear h
  go_enter Tryz.func119, Tryz.ntmps119
  go_wp2_with (go_at_call 128; refine (tz64 H.out).mono ?_; rintro e wf ⟨rfl, rfl⟩)
  go_ret
  exact ⟨rfl, rfl⟩
theorem pow2_ {w : World} : Calls Tryz.prog 118 #[.int .i64 16] w fun e w' => e = .returned (.bool true) ∧ w = w' := by
  go_enter Tryz.func118, Tryz.ntmps118
  go_wp2_with fail
  go_ret
  exact ⟨rfl, rfl⟩

/- The row of 65 bytes: the last ones are t. -/
structure HexRow (w : World) (g : Nat) (t : List UInt8) : Prop where
  row : ∃ cs : Array Value, Blk w g 144 cs ∧ cs.size = 65 ∧ (∀ i, i < 65 → ∃ v, cs[i]? = some v) ∧ ∀ j (hj : j < t.length), cs[65 - t.length + j]? = some (.int .u8 ((t[j]'hj).toNat : Int))
theorem HexRow.cell {w : World} {g : Nat} {t : List UInt8} (h : HexRow w g t) (i : Nat) (hi : i < 65) : ∃ v, w.cell? ⟨g, i, none⟩ = some v := by
  obtain ⟨cs, hb, _, ha, _⟩ := h.row
  obtain ⟨v, hv⟩ := ha i hi
  exact ⟨v, (hb.cell i).trans hv⟩
theorem HexRow.frozen {w : World} {g : Nat} {t : List UInt8} (h : HexRow w g t) (i : Nat) : w.frozen? ⟨g, i, none⟩ = false := by
  obtain ⟨cs, hb, _⟩ := h.row
  exact hb.frozen i
theorem HexRow.put {w : World} {g : Nat} {t : List UInt8} (h : HexRow w g t) (ht : t.length < 65) (c : UInt8) : HexRow (w.setCell ⟨g, 64 - t.length, none⟩ (.int .u8 (c.toNat : Int))) g (c :: t) := by
  obtain ⟨cs, hb, hs, ha, hc⟩ := h.row
  refine ⟨_, hb.set_ _ _, by simp [hs], fun i hi => ?_, fun j hj => ?_⟩
  · rw [Array.getElem?_setIfInBounds]
    split
    · exact ⟨_, by rw [if_pos (by omega)]⟩
    · exact ha i hi
  · rw [List.length_cons] at hj ⊢
    rw [Array.getElem?_setIfInBounds]
    cases j with
    | zero => rw [if_pos (by omega), if_pos (by omega)]; rfl
    | succ j =>
      rw [if_neg (by omega), List.getElem_cons_succ]
      have := hc j (by omega)
      rw [← this]
      congr 1
      omega
theorem hexL_step {x y : Nat} {t : List UInt8} (h : hexL x = hexL y ++ t) (hy : 16 ≤ y) : hexL x = hexL (y / 16) ++ (hexd (y % 16) :: t) := by
  rw [h]
  conv => lhs; arg 1; unfold hexL
  rw [dif_neg (by omega), List.append_assoc]
  rfl
theorem hexL_last {x y : Nat} {t : List UInt8} (h : hexL x = hexL y ++ t) (hy : y < 16) : hexL x = hexd y :: t := by
  rw [h]
  conv => lhs; arg 1; unfold hexL
  rw [dif_pos hy]
  rfl
theorem digits36_at (d : Nat) (h : d < 16) : ((⟨#[48, 49, 50, 51, 52, 53, 54, 55, 56, 57, 97, 98, 99, 100, 101, 102, 103, 104, 105, 106, 107, 108, 109, 110, 111, 112, 113, 114, 115, 116, 117, 118, 119, 120, 121, 122]⟩ : ByteArray)[d]'(Nat.lt_trans h (by decide))).toNat = (hexd d).toNat := by
  have : ∀ d : Fin 16, ((⟨#[48, 49, 50, 51, 52, 53, 54, 55, 56, 57, 97, 98, 99, 100, 101, 102, 103, 104, 105, 106, 107, 108, 109, 110, 111, 112, 113, 114, 115, 116, 117, 118, 119, 120, 121, 122]⟩ : ByteArray)[d.1]'(Nat.lt_trans d.2 (by decide))).toNat = (hexd d.1).toNat := by decide
  exact this ⟨d, h⟩
theorem slice65 (g n : Nat) (hn : n ≤ 64) (W : World) : (Instr.sliceAt 144 (.pointer (some ⟨g, 0, none⟩)) (some (.int .i64 ((65 : Int) - (n : Int) - 1))) none none).run Tryz.prog W = .ok (.slice (some ⟨g, 64 - n, none⟩) (n + 1) (n + 1)) W := by
  have ha : Tryz.prog.arrayLen 144 = 65 := by kernel_rfl
  have hu : Tryz.prog.underlying 144 = some (.array (Tryz.prog.arrayLen 144) (Tryz.prog.elem 144)) := by kernel_rfl
  have hs : (sizeOf (Tryz.prog.elem 144)).run Tryz.prog W = .ok 1 W := by kernel_rfl
  rw [run_sliceAt_array_l W _ _ hu .i64 ((65 : Int) - (n : Int) - 1) (by omega) (by rw [ha]; omega), hs, ha]
  have e : ((65 : Int) - (n : Int) - 1).toNat = 64 - n := by omega
  rw [e]
  show Result.ok (Value.slice (some (if 65 = 64 - n then (⟨g, 0, none⟩ : Addr) else (⟨g, 0, none⟩ : Addr).add ((64 - n) * 1))) (65 - (64 - n)) (65 - (64 - n))) W = _
  rw [if_neg (by omega), show 65 - (64 - n) = n + 1 by omega]
  have e2 : (⟨g, 0, none⟩ : Addr).add ((64 - n) * 1) = ⟨g, 64 - n, none⟩ := by unfold Addr.add; split <;> simp_all
  rw [e2]

set_option maxHeartbeats 1000000 in
set_option maxRecDepth 100000 in
theorem bits16 {w : World} (x : Nat) (hx : x < 65536) (h : w.cell? ⟨5, 15, none⟩ = some (.int .u8 4)) : Calls Tryz.prog 99 #[.slice none 0 0, .int .u64 (x : Int), .int .i64 16, .bool false, .bool false] w fun e w' => e = .returned (.tuple #[.slice none 0 0, .string ⟨(hexL x).toArray⟩]) ∧ Below w.heap.size w w' := by
  have H := Lib.hid (h : w.cell? ⟨5, 15, none⟩ = some (.int .u8 4))
  have h5 : 5 < w.heap.size := World.block_lt_of_cell? w _ h
  have TZ := fun o => tz_ (w := w.alloc o) ((((Below.refl w.heap.size w).alloc (Nat.le_refl _) o).cell (p := ⟨5, 15, none⟩) h5).trans h)
  clear h
  go_enter Tryz.func99, Tryz.ntmps99
  go_wp2_with (first
    | (go_at_call 118; refine pow2_.mono ?_; rintro e wf ⟨rfl, rfl⟩)
    | (go_at_call 119; refine (TZ _).mono ?_; rintro e wf ⟨rfl, rfl⟩))
  go_loopw [1, 13] (fun u i wr => ∃ (y : Nat) (t : List UInt8), t.length ≤ 15 ∧ y < 16 ^ (16 - t.length) ∧ u = .int .u64 (y : Int) ∧ i = .int .i64 ((65 : Int) - (t.length : Int)) ∧ RowKit.Hid (hexL x = hexL y ++ t) ∧ HexRow wr w.heap.size t ∧ Below w.heap.size w wr) (fun u _ _ => (intOf u).toNat)
  case atStart =>
    have hz : (Tryz.zeroCells144 : Array Value).size = 65 := by kernel_rfl
    exact ⟨x, [], by decide, by simp; omega, rfl, rfl, Lib.hid (by simp), ⟨⟨Tryz.zeroCells144, Blk.new _ _ _, hz, fun i hi => ⟨_, Array.getElem?_eq_getElem (by rw [hz]; exact hi)⟩, fun j hj => absurd hj (by simp)⟩⟩, (Below.refl _ _).alloc (Nat.le_refl _) _⟩
  case round =>
    obtain ⟨y, t, ht, hy, rfl, rfl, hx, hr, hB⟩ := hrel
    have hyt : y < 18446744073709551616 := Nat.lt_of_lt_of_le hy (Nat.le_trans (Nat.pow_le_pow_right (by decide) (show 16 - t.length ≤ 16 by omega)) (by decide))
    have hput := fun c => hr.put (by omega : t.length < 65) c
    obtain ⟨v, hv⟩ := hr.cell (64 - t.length) (by omega)
    have hf := hr.frozen (64 - t.length)
    have e1 : ((65 : Int) - (t.length : Int) - 1).toNat = 64 - t.length := by omega
    have h0 : (0 : Int) ≤ (65 : Int) - (t.length : Int) - 1 := by omega
    have hlt := (show w.heap.size < wr.heap.size by obtain ⟨cs, hb, _⟩ := hr.row; exact hb.lt)
    by_cases hc : 16 ≤ y
    · have hstep := hexL_step hx.out hc
      have Hstep := Lib.hid hstep
      clear hstep
      have hpow : y / 16 < 16 ^ (16 - (t.length + 1)) := by
        have : 16 ^ (16 - t.length) = 16 ^ (16 - (t.length + 1)) * 16 := by
          rw [← Nat.pow_succ]
          congr 1
          omega
        omega
      have hn : t.length + 1 ≤ 15 := by
        rcases Nat.lt_or_ge t.length 15 with h | h
        · omega
        · have : t.length = 15 := by omega
          rw [this] at hy
          omega
      have ea : bits .and .u64 (y : Int) 15 = ((y % 16 : Nat) : Int) := by
        have h := u64_and_nat y 15 hyt (by decide)
        rw [show ((15 : Nat) : Int) = 15 from rfl] at h
        rw [h, show (15 : Nat) = 2 ^ 4 - 1 from rfl, Nat.and_two_pow_sub_one_eq_mod]
      have hm : y % 16 < 16 := Nat.mod_lt _ (by decide)
      have hd := digits36_at (y % 16) hm
      have hP := hput (hexd (y % 16))
      rw [← hd] at hP
      have Hput := Lib.hid hP
      have HB := Lib.hid hB
      have Hpow := Lib.hid hpow
      have Hx := Lib.hid hx
      clear hx hd hP hput hB hr hy hpow
      go_wp2_with fail
      go_roundw
      case rel =>
        exact ⟨y / 16, hexd (y % 16) :: t, by simpa using hn, Hpow.out, by go_num, by rw [List.length_cons]; congr 1; omega, Hstep, Hput.out, HB.out.setCell (Nat.le_refl _) _⟩
      case measure => simp [intOf]; omega
    · have hlast := hexL_last hx.out (by omega)
      have Hlast := Lib.hid hlast
      clear hlast
      have hm : y < 16 := by omega
      have hd := digits36_at y hm
      have hP := hput (hexd y)
      have hback := run_convert_bytes_back (P := Tryz.prog) (wr.setCell ⟨w.heap.size, 64 - t.length, none⟩ (.int .u8 ((hexd y).toNat : Int))) 49 9 5 ⟨w.heap.size, 64 - t.length, none⟩ (t.length + 1) (hexd y :: t) Tryz.underlying49 Tryz.underlying5 Tryz.underlying9 (fun j hj => by
        obtain ⟨cs, hb, hs, ha, hcc⟩ := hP.row
        have e : (⟨w.heap.size, 64 - t.length, none⟩ : Addr).add j = ⟨w.heap.size, 64 - t.length + j, none⟩ := by unfold Addr.add; split <;> simp_all
        rw [e]
        refine (hb.cell _).trans ?_
        have := hcc j hj
        rw [List.length_cons] at this
        rw [← this]
        congr 1
        omega)
      rw [← hd] at hP hback
      have Hput := Lib.hid hP
      have HB := Lib.hid hB
      clear hx hd hP hput hB hr hy
      have hsl := slice65 w.heap.size t.length (by omega)
      rw [List.length_cons] at hback
      go_wp2_with fail
      go_ret2
      exact ⟨show Ending.returned (.tuple #[.slice none 0 0, .string ⟨(hexd y :: t).toArray⟩]) = _ by rw [Hlast.out], HB.out.setCell (Nat.le_refl _) _⟩
theorem fmt16_ {w : World} (x : Nat) (hx : x < 65536) (h : w.cell? ⟨5, 15, none⟩ = some (.int .u8 4)) : Calls Tryz.prog 80 #[.int .u64 (x : Int), .int .i64 16] w fun e w' => e = .returned (.string ⟨(hexL x).toArray⟩) ∧ Below w.heap.size w w' := by
  have H := Lib.hid (bits16 x hx h)
  clear h
  go_enter Tryz.func80, Tryz.ntmps80
  go_wp2_with (go_at_call 99; refine H.out.mono ?_; rintro e wf ⟨rfl, hb⟩; have Hb := Lib.hid hb; clear hb)
  go_ret
  exact ⟨rfl, Hb.out⟩
theorem fmt16 {w : World} (x : Nat) (hx : x < 65536) (h : w.cell? ⟨5, 15, none⟩ = some (.int .u8 4)) : Calls Tryz.prog 50 #[.int .u64 (x : Int), .int .i64 16] w fun e w' => e = .returned (.string ⟨(hexL x).toArray⟩) ∧ Below w.heap.size w w' := by
  have H := Lib.hid (fmt16_ x hx h)
  clear h
  go_enter Tryz.func50, Tryz.ntmps50
  go_wp2_with (go_at_call 80; refine H.out.mono ?_; rintro e wf ⟨rfl, hb⟩; have Hb := Lib.hid hb; clear hb)
  go_ret
  exact ⟨rfl, Hb.out⟩
end Go.Proofs.YtomndcjgdfhmbaaGreatDoor
