/- Joined out of: W IpA IpB TxA Ad IpD TxB TxC TxD TxE. -/
import Derived.WalkKit
import Derived.WalkSpells
import Derived.WalkLawsBesides
import Derived.Deep.Draws
import Derived.Lib.Hide
import Derived.Test.YtbiglifngfgffaaGreatDoorRows
import Derived.BigQuiet
import Derived.Deep.QuietTactic
import Derived.Laws.IdiomStrings
import Derived.Laws.BitsAllLaws
import Derived.IntWalk
import Derived.Lib.Split
import Derived.Lib.Join
import Derived.Lib.ItoaNum
set_option linter.unusedVariables false
set_option linter.unusedSimpArgs false

/- Words for memory, for every walk of this seat: a block known whole, and a frame that lets a set of blocks turn. -/
namespace Go.Proofs.YtbiglifngfgffaaGreatDoor
open Go.RowKit

def Blk (w : World) (g : Nat) (t : TypeId) (cs : Array Value) : Prop := w.heap[g]? = some (.cells cs t (0, 0))

section
variable {w w' : World} {g : Nat} {t : TypeId} {cs : Array Value}
theorem Blk.lt (h : Blk w g t cs) : g < w.heap.size := by
  rcases Nat.lt_or_ge g w.heap.size with hlt | hge
  · exact hlt
  · unfold Blk at h; rw [Array.getElem?_eq_none hge] at h; cases h
theorem Blk.cell (h : Blk w g t cs) (i : Nat) : w.cell? ⟨g, i, none⟩ = cs[i]? := cell_of_row w g i cs t (0, 0) h
theorem Blk.frozen (h : Blk w g t cs) (i : Nat) : w.frozen? ⟨g, i, none⟩ = false := by
  unfold Blk at h
  simp [World.frozen?, h]
theorem Blk.new (w : World) (t : TypeId) (cs : Array Value) : Blk (w.alloc (.cells cs t)) w.heap.size t cs := heap_alloc_new w _
theorem Blk.drew (h : Blk w g t cs) : Blk w.drew g t cs := h
theorem Blk.drewN (h : Blk w g t cs) (n : Nat) : Blk (w.drewN n) g t cs := h
theorem Blk.alloc (h : Blk w g t cs) (o : Obj) : Blk (w.alloc o) g t cs := (Below.heap_alloc w o g h.lt).trans h
theorem Blk.set_ (h : Blk w g t cs) (i : Nat) (u : Value) : Blk (w.setCell ⟨g, i, none⟩ u) g t (cs.setIfInBounds i u) := by
  unfold Blk at h ⊢
  simp [World.setCell, Array.getElem?_modify, h]
theorem Blk.far (h : Blk w g t cs) {p : Addr} (hp : g ≠ p.block) (u : Value) : Blk (w.setCell p u) g t cs := (Below.heap_setCell w p u g hp).trans h
theorem Blk.below {B : Nat} (h : Blk w g t cs) (hb : Below B w w') (hg : g < B) : Blk w' g t cs := (hb.block g hg).trans h
theorem Blk.grown {row : Option Nat} (h : Blk w g t cs) (hb : w.grownBy w' row) (hg : some g ≠ row) : Blk w' g t cs := (hb.block g h.lt hg).trans h
theorem Blk.ne_ {g' : Nat} {t' : TypeId} {cs' : Array Value} (h : Blk w g t cs) (h' : Blk w g' t' cs') (hne : t ≠ t') : g ≠ g' := by
  rintro rfl
  unfold Blk at h h'
  rw [h] at h'
  injection h' with h'
  injection h' with _ ht
  exact hne ht
end

/-- Only the blocks of S, and new ones, may have turned. -/
structure Keeps (S : Nat → Prop) (w w' : World) : Prop where
  os : w'.os = w.os
  tape : w'.tape = w.tape
  output : w'.output = w.output
  size : w.heap.size ≤ w'.heap.size
  block : ∀ k, k < w.heap.size → ¬ S k → w'.heap[k]? = w.heap[k]?

section
variable {S T : Nat → Prop} {a b c w w' : World}
theorem Keeps.refl (S : Nat → Prop) (w : World) : Keeps S w w := ⟨rfl, rfl, rfl, Nat.le_refl _, fun _ _ _ => rfl⟩
theorem Keeps.trans (h : Keeps S a b) (k : Keeps S b c) : Keeps S a c :=
  ⟨k.os.trans h.os, k.tape.trans h.tape, k.output.trans h.output, Nat.le_trans h.size k.size, fun i hi hs => (k.block i (Nat.lt_of_lt_of_le hi h.size) hs).trans (h.block i hi hs)⟩
theorem Keeps.mono (h : Keeps S a b) (hst : ∀ k, k < a.heap.size → S k → T k) : Keeps T a b := ⟨h.os, h.tape, h.output, h.size, fun k hk hT => h.block k hk fun hs => hT (hst k hk hs)⟩
theorem Keeps.drew (h : Keeps S a w) : Keeps S a w.drew := ⟨h.os, h.tape, h.output, h.size, h.block⟩
theorem Keeps.drewN (h : Keeps S a w) (n : Nat) : Keeps S a (w.drewN n) := ⟨h.os, h.tape, h.output, h.size, h.block⟩
theorem Keeps.alloc (h : Keeps S a w) (o : Obj) : Keeps S a (w.alloc o) :=
  ⟨h.os, h.tape, h.output, Nat.le_trans h.size (by simp), fun i hi hs => (Below.heap_alloc w o i (Nat.lt_of_lt_of_le hi h.size)).trans (h.block i hi hs)⟩
theorem Keeps.setCell (h : Keeps S a w) {p : Addr} (hp : S p.block ∨ a.heap.size ≤ p.block) (u : Value) : Keeps S a (w.setCell p u) :=
  ⟨h.os, h.tape, h.output, by simpa [World.setCell] using h.size, fun i hi hs => (Below.heap_setCell w p u i (by
    rintro rfl
    rcases hp with hp | hp
    · exact hs hp
    · omega)).trans (h.block i hi hs)⟩
theorem Keeps.of_below {B : Nat} (h : Below B a b) (hS : ∀ k, k < a.heap.size → ¬ S k → k < B) : Keeps S a b := ⟨h.os, h.tape, h.output, h.size, fun i hi hs => h.block i (hS i hi hs)⟩
theorem Keeps.below {B : Nat} (h : Keeps S a b) (hS : ∀ k, S k → B ≤ k) (hB : B ≤ a.heap.size) : Below B a b := ⟨h.os, h.tape, h.output, h.size, fun k hk => h.block k (by omega) fun hs => by have := hS k hs; omega⟩
theorem Keeps.of_grown {row : Option Nat} (h : a.grownBy b row) (hS : ∀ k, row = some k → S k) : Keeps S a b := ⟨h.os, h.tape, h.output, h.size, fun k hk hs => h.block k hk fun e => hs (hS k e.symm)⟩
theorem Blk.keep {g : Nat} {t : TypeId} {cs : Array Value} (h : Blk w g t cs) (hk : Keeps S w w') (hg : ¬ S g) : Blk w' g t cs := (hk.block g h.lt hg).trans h

theorem Keeps.below_drewN {B n : Nat} (h : Keeps S (a.drewN n) b) (hS : ∀ k, S k → B ≤ k) (hB : B ≤ a.heap.size) : Below B a b :=
  have k := h.below hS (show B ≤ (a.drewN n).heap.size from hB)
  ⟨k.os, k.tape, k.output, k.size, k.block⟩
end

theorem cell_far {w : World} {a c : Addr} {u : Value} (h : a.block ≠ c.block) : (w.setCell a u).cell? c = w.cell? c :=
  World.cell?_setCell_other w a c u (fun e => h (by rw [e]))

end Go.Proofs.YtbiglifngfgffaaGreatDoor

/- Sum: the walks. -/
namespace Go.Proofs.YtbiglifngfgffaaGreatDoor
open Go.RowKit

def nats (s : ByteArray) : List Nat := s.data.toList.map UInt8.toNat
end Go.Proofs.YtbiglifngfgffaaGreatDoor

/- A number as bytes; the document's sum: the walks. -/
namespace Go.Proofs.YtbiglifngfgffaaGreatDoor
open Go.RowKit

/- A number as so many bytes, the highest first. -/
def beL (n x : Nat) : List UInt8 := (List.range n).map fun j => UInt8.ofNat (x / 256 ^ (n - 1 - j) % 256)
def be (n x : Nat) : ByteArray := ⟨(beL n x).toArray⟩
theorem be_size (n x : Nat) : (be n x).size = n := by simp [be, ByteArray.size, beL]

end Go.Proofs.YtbiglifngfgffaaGreatDoor

/- Texts of numbers, pieces between signs: the plain law. -/
namespace Go.Proofs.YtbiglifngfgffaaGreatDoor

/- A text cut at each byte c. -/
def split1 (c : UInt8) : List UInt8 → List (List UInt8)
  | [] => [[]]
  | b :: l => if b = c then [] :: split1 c l else
    match split1 c l with
    | [] => [[b]]
    | h :: t => (b :: h) :: t

theorem split1_ne (c : UInt8) : ∀ l, split1 c l ≠ [] := by
  intro l
  cases l with
  | nil => simp [split1]
  | cons b l =>
    unfold split1
    split
    · simp
    · split <;> simp
theorem split1_none {c : UInt8} : ∀ {x : List UInt8}, c ∉ x → split1 c x = [x] := by
  intro x
  induction x with
  | nil => intro _; rfl
  | cons b l ih =>
    intro h
    have hb : b ≠ c := fun e => h (by rw [e]; exact List.mem_cons_self ..)
    have hl := ih fun e => h (List.mem_cons_of_mem _ e)
    unfold split1
    rw [if_neg hb, hl]
theorem split1_hit {c : UInt8} (y : List UInt8) : ∀ {x : List UInt8}, c ∉ x → split1 c (x ++ c :: y) = x :: split1 c y := by
  intro x
  induction x with
  | nil => intro _; rw [List.nil_append]; conv => lhs; unfold split1
           rw [if_pos rfl]
  | cons b l ih =>
    intro h
    have hb : b ≠ c := fun e => h (by rw [e]; exact List.mem_cons_self ..)
    have hl := ih fun e => h (List.mem_cons_of_mem _ e)
    rw [List.cons_append]
    conv => lhs; unfold split1
    rw [if_neg hb, hl]

theorem join_two (x y : List UInt8) (r : List (List UInt8)) (sep : List UInt8) : Lib.join (x :: y :: r) sep = x ++ (sep ++ Lib.join (y :: r) sep) := by
  rw [Lib.join_cons, Lib.join_cons]
  simp [Lib.joinTail]

theorem split1_join {c : UInt8} : ∀ {xs : List (List UInt8)}, xs ≠ [] → (∀ x ∈ xs, c ∉ x) → split1 c (Lib.join xs [c]) = xs := by
  intro xs
  induction xs with
  | nil => intro h; exact absurd rfl h
  | cons x r ih =>
    intro _ h
    cases r with
    | nil => rw [Lib.join_one]; exact split1_none (h x (List.mem_cons_self ..))
    | cons y r =>
      rw [join_two, List.singleton_append, split1_hit _ (h x (List.mem_cons_self ..)), ih (by simp) fun z hz => h z (List.mem_cons_of_mem _ hz)]

theorem split1_length (c : UInt8) : ∀ l : List UInt8, (split1 c l).length ≤ l.length + 1 := by
  intro l
  induction l with
  | nil => simp [split1]
  | cons b l ih =>
    unfold split1
    split
    · simp; exact ih
    · split
      · simp
      · next h t e => rw [e] at ih; simp at ih ⊢; omega

/- The library's Split at one byte. -/
theorem occAt_one (s : List UInt8) (c : UInt8) (i : Nat) : Lib.occAt s [c] i = decide (s[i]? = some c) := by
  unfold Lib.occAt
  by_cases h : i < s.length
  · rw [List.drop_eq_getElem_cons h, List.getElem?_eq_getElem h]
    simp only [List.isPrefixOf, Bool.and_true, Option.some.injEq]
    rw [Bool.eq_iff_iff, beq_iff_eq, decide_eq_true_iff]
    exact eq_comm
  · rw [List.drop_eq_nil_of_le (by omega), List.getElem?_eq_none (by omega)]
    rfl
theorem index_one_none {s : List UInt8} {c : UInt8} (h : c ∉ s) : Lib.index s [c] = -1 := by
  apply Lib.index_none
  intro j _
  rw [occAt_one]
  exact decide_eq_false fun e => h (List.mem_of_getElem? e)
theorem index_one_hit {c : UInt8} {x : List UInt8} (y : List UInt8) (h : c ∉ x) : Lib.index (x ++ c :: y) [c] = (x.length : Nat) := by
  apply Lib.index_first
  · simp
  · rw [occAt_one]; simp
  · intro j hj
    rw [occAt_one, List.getElem?_append_left hj]
    exact decide_eq_false fun e => h (List.mem_of_getElem? e)
theorem first_of_mem {c : UInt8} : ∀ {s : List UInt8}, c ∈ s → ∃ x y, s = x ++ c :: y ∧ c ∉ x := by
  intro s
  induction s with
  | nil => intro h; simp at h
  | cons b l ih =>
    intro h
    by_cases hb : b = c
    · exact ⟨[], l, by rw [hb]; rfl, by simp⟩
    · obtain ⟨x, y, e, hx⟩ := ih (by rcases List.mem_cons.1 h with h | h; · exact absurd h.symm hb
                                     · exact h)
      exact ⟨b :: x, y, by rw [e]; rfl, by simp [hx]; exact fun e => hb e.symm⟩

theorem split_one (c : UInt8) : ∀ (n : Nat) (s : List UInt8), s.length ≤ n → Lib.splitK [c] 0 (Lib.count s [c]) s = split1 c s := by
  intro n
  induction n with
  | zero =>
    intro s hs
    have : s = [] := by cases s; rfl; simp at hs
    subst this
    rfl
  | succ n ih =>
    intro s hs
    by_cases h : c ∈ s
    · obtain ⟨x, y, rfl, hx⟩ := first_of_mem h
      have hi := index_one_hit y hx
      rw [Lib.count_hit (by simp) hi, Nat.add_comm 1]
      unfold Lib.splitK
      rw [hi, if_neg (by simp), split1_hit _ hx]
      have e : (x ++ c :: y).drop (x.length + [c].length) = y := by
        rw [List.length_singleton, List.drop_append]
        simp
      rw [show ((x.length : Int)).toNat = x.length by omega, e, ih y (by simp at hs; omega)]
      simp
    · have hi := index_one_none h
      rw [Lib.count_miss hi, split1_none h]
      rfl

theorem splitB_one (s sep : ByteArray) (c : UInt8) (hc : sep.data.toList = [c]) : (Lib.splitB sep 0 (Lib.countB s sep) s).map (·.data.toList) = split1 c s.data.toList := by
  rw [Lib.splitB_data, hc]
  show Lib.splitK [c] 0 (Lib.count s.data.toList sep.data.toList) _ = _
  rw [hc]
  exact split_one c _ _ (Nat.le_refl _)

/- The library's Cut. -/
theorem cut_one_none {s : List UInt8} {c : UInt8} (h : c ∉ s) : Lib.cut s [c] = (s, [], false) := by
  unfold Lib.cut
  rw [index_one_none h, if_neg (by decide)]
theorem cut_one_hit {c : UInt8} {x : List UInt8} (y : List UInt8) (h : c ∉ x) : Lib.cut (x ++ c :: y) [c] = (x, y, true) := by
  unfold Lib.cut
  rw [index_one_hit y h, if_pos (by omega)]
  simp [List.drop_append]

/- Two bytes c, one behind the other. -/
def pairAt (c : UInt8) (s : List UInt8) (i : Nat) : Prop := s[i]? = some c ∧ s[i + 1]? = some c
theorem occAt_two (s : List UInt8) (c : UInt8) (i : Nat) : Lib.occAt s [c, c] i = true ↔ pairAt c s i := by
  unfold Lib.occAt pairAt
  by_cases h : i < s.length
  · rw [List.drop_eq_getElem_cons h, List.getElem?_eq_getElem h]
    by_cases h2 : i + 1 < s.length
    · rw [List.drop_eq_getElem_cons h2, List.getElem?_eq_getElem h2]
      simp [List.isPrefixOf]
      exact ⟨fun ⟨a, b⟩ => ⟨a.symm, b.symm⟩, fun ⟨a, b⟩ => ⟨a.symm, b.symm⟩⟩
    · rw [List.drop_eq_nil_of_le (by omega), List.getElem?_eq_none (by omega)]
      simp [List.isPrefixOf]
  · rw [List.drop_eq_nil_of_le (by omega), List.getElem?_eq_none (by omega)]
    simp [List.isPrefixOf]
theorem cut_two_none {s : List UInt8} {c : UInt8} (h : ∀ i, ¬ pairAt c s i) : Lib.cut s [c, c] = (s, [], false) := by
  unfold Lib.cut
  rw [Lib.index_none fun j _ => by cases e : Lib.occAt s [c, c] j; rfl; exact absurd ((occAt_two s c j).1 e) (h j)]
  rw [if_neg (by decide)]
theorem cut_two_hit {c : UInt8} {x : List UInt8} (y : List UInt8) (h : ∀ i, ¬ pairAt c x i) (hl : x.getLast? ≠ some c) : Lib.cut (x ++ c :: c :: y) [c, c] = (x, y, true) := by
  have hi : Lib.index (x ++ c :: c :: y) [c, c] = (x.length : Nat) := by
    apply Lib.index_first
    · simp
    · rw [occAt_two]
      unfold pairAt
      constructor
      · simp
      · rw [List.getElem?_append_right (by omega)]
        simp
    · intro j hj
      cases e : Lib.occAt (x ++ c :: c :: y) [c, c] j with
      | false => rfl
      | true =>
        obtain ⟨h1, h2⟩ := (occAt_two _ c j).1 e
        rw [List.getElem?_append_left hj] at h1
        by_cases h3 : j + 1 < x.length
        · rw [List.getElem?_append_left h3] at h2
          exact absurd ⟨h1, h2⟩ (h j)
        · refine absurd ?_ hl
          rw [List.getLast?_eq_getElem?, show x.length - 1 = j by omega]
          exact h1
  unfold Lib.cut
  rw [hi, if_pos (by omega)]
  simp

/- Numbers as texts. -/
def hexd (x : Nat) : UInt8 := if x < 10 then UInt8.ofNat (48 + x) else UInt8.ofNat (87 + x)
def hexL (x : Nat) : List UInt8 := if h : x < 16 then [hexd x] else hexL (x / 16) ++ [hexd (x % 16)]
termination_by x
decreasing_by omega

/- The value of a text of digits: of base 10 or 16, capitals too. -/
def dval (base : Nat) (c : UInt8) : Option Nat :=
  if 48 ≤ c.toNat ∧ c.toNat ≤ 57 then (if c.toNat - 48 < base then some (c.toNat - 48) else none)
  else if 97 ≤ c.toNat ∧ c.toNat ≤ 122 then (if c.toNat - 87 < base then some (c.toNat - 87) else none)
  else if 65 ≤ c.toNat ∧ c.toNat ≤ 90 then (if c.toNat - 55 < base then some (c.toNat - 55) else none)
  else none
def pval (dv : UInt8 → Option Nat) (base : Nat) : Nat → List UInt8 → Option Nat
  | acc, [] => some acc
  | acc, c :: r => match dv c with
    | none => none
    | some d => pval dv base (acc * base + d) r
/- A number of at least one digit, below a bound. -/
def num1 (base bound : Nat) (l : List UInt8) : Option Nat := if l = [] then none else (pval (dval base) base 0 l).bind fun n => if n < bound then some n else none
/- The same of small letters alone, up to four digits. -/
def dvalR (base : Nat) (c : UInt8) : Option Nat :=
  if 48 ≤ c.toNat ∧ c.toNat ≤ 57 then (if c.toNat - 48 < base then some (c.toNat - 48) else none)
  else if 97 ≤ c.toNat ∧ c.toNat ≤ 102 then (if c.toNat - 87 < base then some (c.toNat - 87) else none)
  else none
theorem pval_ge (dv : UInt8 → Option Nat) (base : Nat) (hb : 1 ≤ base) : ∀ (l : List UInt8) (acc n : Nat), pval dv base acc l = some n → acc ≤ n := by
  intro l
  induction l with
  | nil => intro acc n h; simp [pval] at h; omega
  | cons c r ih =>
    intro acc n h
    unfold pval at h
    split at h
    · simp at h
    · next d _ =>
      have := ih _ _ h
      have : acc * 1 ≤ acc * base := Nat.mul_le_mul_left _ hb
      omega
theorem pval_append (dv : UInt8 → Option Nat) (base : Nat) (y : List UInt8) : ∀ (x : List UInt8) (acc : Nat), pval dv base acc (x ++ y) = (pval dv base acc x).bind fun n => pval dv base n y := by
  intro x
  induction x with
  | nil => intro acc; rfl
  | cons c r ih =>
    intro acc
    rw [List.cons_append]
    conv => lhs; unfold pval
    conv => rhs; arg 1; unfold pval
    cases dv c with
    | none => rfl
    | some d => exact ih _

def decd (x : Nat) : UInt8 := UInt8.ofNat (48 + x)
theorem dec_lt {x : Nat} (h : x < 10) : Lib.decDigits x = [decd x] := by unfold Lib.decDigits; rw [dif_pos h]; rfl
theorem dec_ge {x : Nat} (h : ¬ x < 10) : Lib.decDigits x = Lib.decDigits (x / 10) ++ [decd (x % 10)] := by
  conv => lhs; unfold Lib.decDigits
  rw [dif_neg h]
  rfl
theorem hexd_val (x : Nat) (hx : x < 16) : dval 16 (hexd x) = some x ∧ dvalR 16 (hexd x) = some x := by
  have : ∀ x : Fin 16, dval 16 (hexd x.1) = some x.1 ∧ dvalR 16 (hexd x.1) = some x.1 := by decide
  exact this ⟨x, hx⟩
theorem decd_val (x : Nat) (hx : x < 10) : dval 10 (decd x) = some x ∧ dvalR 10 (decd x) = some x := by
  have : ∀ x : Fin 10, dval 10 (decd x.1) = some x.1 ∧ dvalR 10 (decd x.1) = some x.1 := by decide
  exact this ⟨x, hx⟩
theorem hexL_ne (x : Nat) : hexL x ≠ [] := by
  unfold hexL
  split <;> simp
theorem decL_ne (x : Nat) : Lib.decDigits x ≠ [] := by
  unfold Lib.decDigits
  split <;> simp
theorem hexL_val {dv : UInt8 → Option Nat} (hd : ∀ x, x < 16 → dv (hexd x) = some x) (x : Nat) : pval dv 16 0 (hexL x) = some x := by
  induction x using Nat.strongRecOn with
  | _ x ih =>
    unfold hexL
    split
    · next h => simp [pval, hd x h]
    · next h =>
      rw [pval_append, ih (x / 16) (by omega)]
      simp [pval, hd (x % 16) (by omega)]
      omega
theorem decL_val {dv : UInt8 → Option Nat} (hd : ∀ x, x < 10 → dv (decd x) = some x) (x : Nat) : pval dv 10 0 (Lib.decDigits x) = some x := by
  induction x using Nat.strongRecOn with
  | _ x ih =>
    by_cases h : x < 10
    · rw [dec_lt h]
      simp [pval, hd x h]
    · rw [dec_ge h, pval_append, ih (x / 10) (by omega)]
      simp [pval, hd (x % 10) (by omega)]
      omega
theorem hexL_num (x : Nat) {B : Nat} (h : x < B) : num1 16 B (hexL x) = some x := by
  unfold num1
  rw [if_neg (hexL_ne x), hexL_val fun x hx => (hexd_val x hx).1]
  simp [h]
theorem decL_num (x : Nat) {B : Nat} (h : x < B) : num1 10 B (Lib.decDigits x) = some x := by
  unfold num1
  rw [if_neg (decL_ne x), decL_val fun x hx => (decd_val x hx).1]
  simp [h]
theorem num1_lt {base B n : Nat} {l : List UInt8} (h : num1 base B l = some n) : n < B := by
  unfold num1 at h
  split at h
  · cases h
  · cases e : pval (dval base) base 0 l with
    | none => rw [e] at h; cases h
    | some m =>
      rw [e] at h
      simp at h
      omega
/- Which bytes such texts have. -/
def isHex (c : UInt8) : Bool := decide (48 ≤ c.toNat ∧ c.toNat ≤ 57) || decide (97 ≤ c.toNat ∧ c.toNat ≤ 102)
theorem hexd_is (x : Nat) (hx : x < 16) : isHex (hexd x) = true := by
  have : ∀ x : Fin 16, isHex (hexd x.1) = true := by decide
  exact this ⟨x, hx⟩
theorem decd_is (x : Nat) (hx : x < 10) : isHex (decd x) = true := by
  have : ∀ x : Fin 10, isHex (decd x.1) = true := by decide
  exact this ⟨x, hx⟩
theorem hexL_is (x : Nat) : ∀ c ∈ hexL x, isHex c = true := by
  induction x using Nat.strongRecOn with
  | _ x ih =>
    unfold hexL
    split
    · next h => intro c hc; simp at hc; rw [hc]; exact hexd_is x h
    · next h =>
      intro c hc
      rcases List.mem_append.1 hc with hc | hc
      · exact ih (x / 16) (by omega) c hc
      · simp at hc; rw [hc]; exact hexd_is _ (by omega)
theorem decL_is (x : Nat) : ∀ c ∈ Lib.decDigits x, isHex c = true := by
  induction x using Nat.strongRecOn with
  | _ x ih =>
    by_cases h : x < 10
    · rw [dec_lt h]
      intro c hc
      rw [List.mem_singleton.1 hc]
      exact decd_is x h
    · rw [dec_ge h]
      intro c hc
      rcases List.mem_append.1 hc with hc | hc
      · exact ih (x / 10) (by omega) c hc
      · rw [List.mem_singleton.1 hc]
        exact decd_is _ (by omega)
theorem hexL_free (x : Nat) {c : UInt8} (h : isHex c = false) : c ∉ hexL x := fun e => by rw [hexL_is x c e] at h; cases h
theorem decL_free (x : Nat) {c : UInt8} (h : isHex c = false) : c ∉ Lib.decDigits x := fun e => by rw [decL_is x c e] at h; cases h
theorem hexL_len (x : Nat) (hx : x < 65536) : (hexL x).length ≤ 4 := by
  unfold hexL; split
  · simp
  · rw [List.length_append]; unfold hexL; split
    · simp
    · rw [List.length_append]; unfold hexL; split
      · simp
      · rw [List.length_append]; unfold hexL; split
        · simp
        · omega
theorem decL_len (x : Nat) (hx : x < 1000) : (Lib.decDigits x).length ≤ 3 := by
  by_cases h : x < 10
  · rw [dec_lt h]; simp
  · rw [dec_ge h, List.length_append]
    by_cases h : x / 10 < 10
    · rw [dec_lt h]; simp
    · rw [dec_ge h, List.length_append, dec_lt (by omega)]; simp
end Go.Proofs.YtbiglifngfgffaaGreatDoor

/- Addresses, prefixes and packets as data. -/
namespace Go.Proofs.YtbiglifngfgffaaGreatDoor
open Go.RowKit

structure Ad where
  v6 : Bool
  hi : Nat
  lo : Nat
structure Pk where
  a : Ad
  b : Ad
  proto : Nat
  ttl : Nat
  data : ByteArray

def Ad.cells (a : Ad) : Array Value := #[.bool a.v6, .int .u64 (a.hi : Int), .int .u64 (a.lo : Int)]
def Pk.cells (p : Pk) : Array Value := #[.bool p.a.v6, .int .u64 (p.a.hi : Int), .int .u64 (p.a.lo : Int), .bool p.b.v6, .int .u64 (p.b.hi : Int), .int .u64 (p.b.lo : Int), .int .u8 (p.proto : Int), .int .u8 (p.ttl : Int), .string p.data]
structure Ad.Ok (a : Ad) : Prop where
  hi : a.hi < 18446744073709551616
  lo : a.lo < 18446744073709551616
structure Pk.Ok (p : Pk) : Prop where
  a : p.a.Ok
  b : p.b.Ok
  proto : p.proto < 256
  ttl : p.ttl < 256
  data : p.data.size ≤ 8192

def Ad.may (a : Ad) : Bool := a.v6 || (decide (a.hi = 0) && decide (a.lo < 4294967296))
def Pk.head (p : Pk) : Nat := if p.a.v6 then 40 else 20
structure Pf where
  a : Ad
  bits : Nat
def Pf.cells (p : Pf) : Array Value := #[.bool p.a.v6, .int .u64 (p.a.hi : Int), .int .u64 (p.a.lo : Int), .int .u8 (p.bits : Int)]
structure Pf.Ok (p : Pf) : Prop where
  a : p.a.Ok
  bits : p.bits < 256

end Go.Proofs.YtbiglifngfgffaaGreatDoor

/- Addresses and packets as data; which may be: the walks. -/
namespace Go.Proofs.YtbiglifngfgffaaGreatDoor
open Go.RowKit

theorem mayAddr_any (a : Ad) (ok : a.Ok) (w : World) : Calls Tryz.prog 78 #[.agg a.cells] w fun r w' => r = .returned (.bool a.may) ∧ Below w.heap.size w w' := by
  obtain ⟨v, h, l⟩ := a
  have h1 := ok.hi
  have h2 := ok.lo
  simp only at h1 h2
  unfold Ad.cells
  cases v with
  | true =>
    go_enter Tryz.func78, Tryz.ntmps78
    go_wp2_with fail
    go_ret
    exact ⟨by simp [Ad.may], (Below.refl _ _).alloc (Nat.le_refl _) _⟩
  | false =>
    by_cases hz : h = 0
    · subst hz
      by_cases hl : l < 4294967296
      · have hq : (l : Int) / 4294967296 = 0 := by omega
        go_enter Tryz.func78, Tryz.ntmps78
        go_wp2_with fail
        go_ret
        exact ⟨by simp [Ad.may, hl], (Below.refl _ _).alloc (Nat.le_refl _) _⟩
      · have hq : ¬ (l : Int) / 4294967296 = 0 := by omega
        go_enter Tryz.func78, Tryz.ntmps78
        go_wp2_with fail
        go_ret
        exact ⟨by simp [Ad.may, hl]; exact hq, (Below.refl _ _).alloc (Nat.le_refl _) _⟩
    · have hq : ¬ (h : Int) = 0 := by omega
      go_enter Tryz.func78, Tryz.ntmps78
      go_wp2_with fail
      go_ret
      exact ⟨by simp [Ad.may, hz], (Below.refl _ _).alloc (Nat.le_refl _) _⟩

theorem rmayAddr_any (a : Ad) (ok : a.Ok) (w : World) : Calls Tryz.prog 105 #[.agg a.cells] w fun r w' => r = .returned (.bool a.may) ∧ Below w.heap.size w w' := by
  obtain ⟨v, h, l⟩ := a
  have h1 := ok.hi
  have h2 := ok.lo
  simp only at h1 h2
  unfold Ad.cells
  cases v with
  | true =>
    go_enter Tryz.func105, Tryz.ntmps105
    go_wp2_with fail
    go_ret
    exact ⟨by simp [Ad.may], (Below.refl _ _).alloc (Nat.le_refl _) _⟩
  | false =>
    by_cases hz : h = 0
    · subst hz
      by_cases hl : l < 4294967296
      · have hq : (l : Int) < 4294967296 := by omega
        go_enter Tryz.func105, Tryz.ntmps105
        go_wp2_with fail
        go_ret
        exact ⟨by simp [Ad.may, hl], (Below.refl _ _).alloc (Nat.le_refl _) _⟩
      · have hq : ¬ (l : Int) < 4294967296 := by omega
        go_enter Tryz.func105, Tryz.ntmps105
        go_wp2_with fail
        go_ret
        exact ⟨by simp [Ad.may, hl], (Below.refl _ _).alloc (Nat.le_refl _) _⟩
    · have hq : ¬ (h : Int) = 0 := by omega
      go_enter Tryz.func105, Tryz.ntmps105
      go_wp2_with fail
      go_ret
      exact ⟨by simp [Ad.may, hz], (Below.refl _ _).alloc (Nat.le_refl _) _⟩

theorem bcell {W w1 : World} (hb : Below W.heap.size W w1) : (∀ b o, b < W.heap.size → w1.cell? ⟨b, o, none⟩ = W.cell? ⟨b, o, none⟩) ∧ (∀ b o, b < W.heap.size → w1.frozen? ⟨b, o, none⟩ = W.frozen? ⟨b, o, none⟩) :=
  ⟨fun b o h => hb.cell (p := ⟨b, o, none⟩) h, fun b o h => hb.frozen (p := ⟨b, o, none⟩) h⟩

theorem after {w w1 w2 : World} (h : Below w.heap.size w w1) (h2 : Below w1.heap.size w1 w2) : Below w.heap.size w w2 := h.trans (h2.mono h.size)
theorem boxed (w : World) (o : Obj) : Below w.heap.size w (w.alloc o) := (Below.refl _ _).alloc (Nat.le_refl _) o

def Got (v : Value) (w : World) (r : Ending) (w' : World) : Prop := r = .returned v ∧ Below w.heap.size w w'

end Go.Proofs.YtbiglifngfgffaaGreatDoor

/- Addresses as texts: the plain law. -/
namespace Go.Proofs.YtbiglifngfgffaaGreatDoor

/- The eight numbers of an address of IPv6. -/
def pieceL (a : Ad) : List Nat := [a.hi / 2 ^ 48 % 65536, a.hi / 2 ^ 32 % 65536, a.hi / 2 ^ 16 % 65536, a.hi % 65536, a.lo / 2 ^ 48 % 65536, a.lo / 2 ^ 32 % 65536, a.lo / 2 ^ 16 % 65536, a.lo % 65536]

def run0 : List Nat → Nat
  | [] => 0
  | x :: l => if x = 0 then run0 l + 1 else 0

/- The longest row of noughts, the first of equal ones. -/
def bestGo : Nat → List Nat → Int × Nat → Int × Nat
  | _, [], s => s
  | i, x :: l, s => bestGo (i + 1) l (if run0 (x :: l) > s.2 then ((i : Int), run0 (x :: l)) else s)
def best (L : List Nat) : Int × Nat := bestGo 0 L (-1, 1)

def colon : List UInt8 := [58]
def dot : List UInt8 := [46]
def joinH (L : List Nat) : List UInt8 := Lib.join (L.map hexL) colon
def text6 (L : List Nat) : List UInt8 :=
  if (best L).1 < 0 then joinH L else joinH (L.take (best L).1.toNat) ++ (58 :: 58 :: joinH (L.drop ((best L).1.toNat + (best L).2)))
def lo4 (lo : Nat) : List Nat := [lo / 2 ^ 24 % 256, lo / 2 ^ 16 % 256, lo / 2 ^ 8 % 256, lo % 256]
def text4 (lo : Nat) : List UInt8 := Lib.join ((lo4 lo).map Lib.decDigits) dot
def textL (a : Ad) : List UInt8 := if a.may = false then [] else if a.v6 = false then text4 a.lo else text6 (pieceL a)

/- What the longest row is. -/
theorem run0_le (l : List Nat) : run0 l ≤ l.length := by
  induction l with
  | nil => simp [run0]
  | cons x l ih => unfold run0; split <;> simp; omega
theorem run0_take : ∀ l : List Nat, l.take (run0 l) = List.replicate (run0 l) 0 := by
  intro l
  induction l with
  | nil => rfl
  | cons x l ih =>
    unfold run0
    split
    · next h => rw [h, List.take_succ_cons, ih, List.replicate_succ]
    · rfl
structure BestOk (L : List Nat) (s : Int × Nat) : Prop where
  two : 0 ≤ s.1 → 2 ≤ s.2
  le : 0 ≤ s.1 → s.1.toNat + s.2 ≤ L.length
  noughts : 0 ≤ s.1 → (L.drop s.1.toNat).take s.2 = List.replicate s.2 0
  one : 1 ≤ s.2
theorem bestGo_ok (L : List Nat) : ∀ (l : List Nat) (i : Nat) (s : Int × Nat), l = L.drop i → BestOk L s → BestOk L (bestGo i l s) := by
  intro l
  induction l with
  | nil => intro i s _ h; exact h
  | cons x l ih =>
    intro i s hl h
    have hl2 : l = L.drop (i + 1) := by rw [← List.drop_drop, ← hl]; rfl
    have hlen : (x :: l).length = L.length - i := by rw [hl, List.length_drop]
    have hr := run0_le (x :: l)
    refine ih (i + 1) _ hl2 ?_
    split
    · next hgt =>
      refine ⟨fun _ => ?_, fun _ => ?_, fun _ => ?_, ?_⟩
      · show 2 ≤ run0 (x :: l)
        have := h.one
        omega
      · show (i : Int).toNat + run0 (x :: l) ≤ L.length
        have : 1 ≤ (x :: l).length := by simp
        omega
      · show (L.drop (i : Int).toNat).take (run0 (x :: l)) = _
        rw [show (i : Int).toNat = i by omega, ← hl]
        exact run0_take _
      · show 1 ≤ run0 (x :: l)
        omega
    · exact h
theorem best_ok (L : List Nat) : BestOk L (best L) := bestGo_ok L L 0 (-1, 1) rfl ⟨fun h => absurd h (by decide), fun h => absurd h (by decide), fun h => absurd h (by decide), by decide⟩

/- Joined numbers. -/
theorem joinH_nil : joinH [] = [] := rfl
theorem hex_free {c : UInt8} (h : isHex c = false) (L : List Nat) : ∀ x ∈ L.map hexL, c ∉ x := by
  intro x hx
  obtain ⟨n, _, rfl⟩ := List.mem_map.1 hx
  exact hexL_free n h
theorem joinH_cons (x y : Nat) (r : List Nat) : joinH (x :: y :: r) = hexL x ++ 58 :: joinH (y :: r) := by
  unfold joinH
  rw [List.map_cons, List.map_cons, join_two]
  rfl
theorem joinH_one (x : Nat) : joinH [x] = hexL x := by
  unfold joinH
  rw [List.map_cons, List.map_nil, Lib.join_one]
theorem joinH_head (x : Nat) (r : List Nat) : ∃ t, joinH (x :: r) = hexL x ++ t := by
  cases r with
  | nil => exact ⟨[], by rw [joinH_one, List.append_nil]⟩
  | cons y r => exact ⟨_, joinH_cons x y r⟩
theorem joinH_ne (x : Nat) (r : List Nat) : joinH (x :: r) ≠ [] := by
  obtain ⟨t, e⟩ := joinH_head x r
  rw [e]
  simp [hexL_ne]
theorem split_joinH {L : List Nat} (h : L ≠ []) : split1 58 (joinH L) = L.map hexL := by
  unfold joinH
  exact split1_join (by simpa using h) (hex_free (by decide) L)
/- Which bytes stand in them. -/
theorem joinH_mem : ∀ (L : List Nat) (c : UInt8), c ∈ joinH L → isHex c = true ∨ c = 58 := by
  intro L
  induction L with
  | nil => intro c hc; simp [joinH_nil] at hc
  | cons x r ih =>
    intro c hc
    cases r with
    | nil => rw [joinH_one] at hc; exact Or.inl (hexL_is x c hc)
    | cons y r =>
      rw [joinH_cons] at hc
      rcases List.mem_append.1 hc with hc | hc
      · exact Or.inl (hexL_is x c hc)
      · rcases List.mem_cons.1 hc with hc | hc
        · exact Or.inr hc
        · exact ih c hc
theorem pair_append {c : UInt8} {x y : List UInt8} {i : Nat} (h : pairAt c (x ++ c :: y) i) (hx : c ∉ x) (hy : y.head? ≠ some c) (hne : x ≠ []) : ∃ j, pairAt c y j := by
  obtain ⟨h1, h2⟩ := h
  by_cases hi : i < x.length
  · rw [List.getElem?_append_left hi] at h1
    exact absurd (List.mem_of_getElem? h1) hx
  · rw [List.getElem?_append_right (by omega)] at h1 h2
    by_cases e : i = x.length
    · subst e
      rw [show x.length + 1 - x.length = 0 + 1 by omega, List.getElem?_cons_succ] at h2
      refine absurd ?_ hy
      rw [List.head?_eq_getElem?]
      exact h2
    · obtain ⟨k, rfl⟩ : ∃ k, i = x.length + (k + 1) := ⟨i - x.length - 1, by omega⟩
      rw [show x.length + (k + 1) - x.length = k + 1 by omega, List.getElem?_cons_succ] at h1
      rw [show x.length + (k + 1) + 1 - x.length = k + 1 + 1 by omega, List.getElem?_cons_succ] at h2
      exact ⟨k, h1, h2⟩
theorem head_hex {x : Nat} {t : List UInt8} {c : UInt8} (h : isHex c = false) : (hexL x ++ t).head? ≠ some c := by
  cases e : hexL x with
  | nil => exact absurd e (hexL_ne x)
  | cons a l =>
    intro hc
    have : a ∈ hexL x := by rw [e]; exact List.mem_cons_self ..
    have h2 := hexL_is x a this
    simp at hc
    rw [hc, h] at h2
    cases h2
theorem joinH_nopair : ∀ (L : List Nat) (i : Nat), ¬ pairAt 58 (joinH L) i := by
  intro L
  induction L with
  | nil => rintro i ⟨h, _⟩; simp [joinH_nil] at h
  | cons x r ih =>
    intro i h
    cases r with
    | nil =>
      rw [joinH_one] at h
      exact hexL_free x (by decide) (List.mem_of_getElem? h.1)
    | cons y r =>
      rw [joinH_cons] at h
      obtain ⟨t, e⟩ := joinH_head y r
      obtain ⟨j, hj⟩ := pair_append h (hexL_free x (by decide)) (by rw [e]; exact head_hex (by decide)) (hexL_ne x)
      exact ih j hj
theorem last_hex (x : Nat) {c : UInt8} (h : isHex c = false) : (hexL x).getLast? ≠ some c := fun e => hexL_free x h (List.mem_of_getLast? e)
theorem joinH_last : ∀ L : List Nat, (joinH L).getLast? ≠ some 58 := by
  intro L
  induction L with
  | nil => simp [joinH_nil]
  | cons x r ih =>
    cases r with
    | nil => rw [joinH_one]; exact last_hex x (by decide)
    | cons y r =>
      rw [joinH_cons]
      intro h
      obtain ⟨a, l, e⟩ : ∃ a l, joinH (y :: r) = a :: l := by
        cases e : joinH (y :: r) with
        | nil => exact absurd e (joinH_ne y r)
        | cons a l => exact ⟨a, l, rfl⟩
      rw [List.getLast?_append, e, List.getLast?_cons_cons] at h
      rw [e] at ih
      cases e2 : (a :: l).getLast? with
      | none => simp at e2
      | some z =>
        rw [e2] at h ih
        exact ih h
end Go.Proofs.YtbiglifngfgffaaGreatDoor

/- Addresses read off texts: the plain law, of the program's guess and of the document's. -/
namespace Go.Proofs.YtbiglifngfgffaaGreatDoor

def gather (base B : Nat) : List (List UInt8) → List Nat → Option (List Nat)
  | [], acc => some acc
  | t :: r, acc => match num1 base B t with
    | none => none
    | some n => if 8 < acc.length then none else gather base B r (acc ++ [n])
def numbersL (c : UInt8) (base B : Nat) (s : List UInt8) : Option (List Nat) := if s = [] then some [] else gather base B (split1 c s) []
def fold16 (l : List Nat) : Nat := l.foldl (fun h x => h * 65536 + x) 0
def fold8 (l : List Nat) : Nat := l.foldl (fun h x => h * 256 + x) 0
def wholeL (front back : List Nat) (gap : Bool) : Option Ad :=
  if (gap = false ∧ front.length + back.length ≠ 8) ∨ (gap = true ∧ 7 < front.length + back.length) then none
  else some ⟨true, fold16 ((front ++ List.replicate (8 - (front.length + back.length)) 0 ++ back).take 4), fold16 ((front ++ List.replicate (8 - (front.length + back.length)) 0 ++ back).drop 4)⟩
def guess6 (s : List UInt8) : Option Ad :=
  match numbersL 58 16 65536 (Lib.cut s [58, 58]).1, numbersL 58 16 65536 (Lib.cut s [58, 58]).2.1 with
  | some f, some b => wholeL f b (Lib.cut s [58, 58]).2.2
  | _, _ => none
def guessP (s : List UInt8) : Option Ad :=
  match numbersL 46 10 256 s with
  | some l => if l.length = 4 then some ⟨false, 0, fold8 l⟩ else guess6 s
  | none => guess6 s
def readL (s : List UInt8) : Option Ad := (guessP s).bind fun a => if textL a = s then some a else none

theorem gather_all {base B : Nat} {f : Nat → List UInt8} (hf : ∀ x, x < B → num1 base B (f x) = some x) : ∀ (L acc : List Nat), (∀ x ∈ L, x < B) → acc.length + L.length ≤ 9 → gather base B (L.map f) acc = some (acc ++ L) := by
  intro L
  induction L with
  | nil => intro acc _ _; simp [gather]
  | cons x r ih =>
    intro acc h hl
    rw [List.length_cons] at hl
    rw [List.map_cons]
    unfold gather
    rw [hf x (h x (List.mem_cons_self ..))]
    simp only
    rw [if_neg (by omega), ih _ (fun y hy => h y (List.mem_cons_of_mem _ hy)) (by rw [List.length_append, List.length_singleton]; omega)]
    simp
theorem gather_lt {base B : Nat} : ∀ (l : List (List UInt8)) (acc L : List Nat), gather base B l acc = some L → (∀ x ∈ acc, x < B) → acc.length ≤ 9 → (∀ x ∈ L, x < B) ∧ L.length ≤ 9 := by
  intro l
  induction l with
  | nil => intro acc L h ha hl; simp [gather] at h; subst h; exact ⟨ha, hl⟩
  | cons t r ih =>
    intro acc L h ha hl
    unfold gather at h
    split at h
    · cases h
    · next n hn =>
      split at h
      · cases h
      · refine ih _ _ h ?_ (by simp; omega)
        intro x hx
        rcases List.mem_append.1 hx with hx | hx
        · exact ha x hx
        · rw [List.mem_singleton.1 hx]; exact num1_lt hn
theorem numbersL_lt {c : UInt8} {base B : Nat} {s : List UInt8} {L : List Nat} (h : numbersL c base B s = some L) : (∀ x ∈ L, x < B) ∧ L.length ≤ 9 := by
  unfold numbersL at h
  split at h
  · cases h; exact ⟨by simp, by simp⟩
  · exact gather_lt _ _ _ h (by simp) (by simp)

theorem numbers_joinH (L : List Nat) (h : ∀ x ∈ L, x < 65536) (hl : L.length ≤ 9) : numbersL 58 16 65536 (joinH L) = some L := by
  unfold numbersL
  cases L with
  | nil => rfl
  | cons x r =>
    rw [if_neg (joinH_ne x r), split_joinH (by simp), gather_all (fun x hx => hexL_num x hx) _ _ h (by simpa using hl)]
    rfl

theorem lo4_lt (lo : Nat) : ∀ x ∈ lo4 lo, x < 256 := by
  intro x hx
  simp only [lo4, List.mem_cons, List.mem_nil_iff, or_false] at hx
  omega
theorem dec_free {c : UInt8} (h : isHex c = false) (L : List Nat) : ∀ x ∈ L.map Lib.decDigits, c ∉ x := by
  intro x hx
  obtain ⟨n, _, rfl⟩ := List.mem_map.1 hx
  exact decL_free n h
theorem split_text4 (lo : Nat) : split1 46 (text4 lo) = (lo4 lo).map Lib.decDigits := by
  unfold text4
  exact split1_join (by simp [lo4]) (dec_free (by decide) _)
theorem text4_ne (lo : Nat) : text4 lo ≠ [] := by
  unfold text4 lo4
  rw [List.map_cons, List.map_cons, join_two]
  simp [decL_ne]
theorem numbers_text4 (lo : Nat) : numbersL 46 10 256 (text4 lo) = some (lo4 lo) := by
  unfold numbersL
  rw [if_neg (text4_ne lo), split_text4, gather_all (fun x hx => decL_num x hx) _ _ (lo4_lt lo) (by simp [lo4])]
  rfl
theorem fold8_lo4 {lo : Nat} (h : lo < 4294967296) : fold8 (lo4 lo) = lo := by
  simp only [fold8, lo4, List.foldl_cons, List.foldl_nil]
  omega

theorem pieceL_lt (a : Ad) : ∀ x ∈ pieceL a, x < 65536 := by
  intro x hx
  simp only [pieceL, List.mem_cons, List.mem_nil_iff, or_false] at hx
  omega
theorem pieceL_length (a : Ad) : (pieceL a).length = 8 := rfl
theorem fold_hi {a : Ad} (h : a.Ok) : fold16 ((pieceL a).take 4) = a.hi := by
  have := h.hi
  simp only [fold16, pieceL, List.take_succ_cons, List.take_zero, List.foldl_cons, List.foldl_nil]
  omega
theorem fold_lo {a : Ad} (h : a.Ok) : fold16 ((pieceL a).drop 4) = a.lo := by
  have := h.lo
  simp only [fold16, pieceL, List.drop_succ_cons, List.drop_zero, List.foldl_cons, List.foldl_nil]
  omega

/- A text of IPv6 has a colon, and no dot. -/
theorem text6_mem (L : List Nat) (c : UInt8) (hc : c ∈ text6 L) : isHex c = true ∨ c = 58 := by
  unfold text6 at hc
  split at hc
  · exact joinH_mem _ _ hc
  · rcases List.mem_append.1 hc with hc | hc
    · exact joinH_mem _ _ hc
    · rcases List.mem_cons.1 hc with hc | hc
      · exact Or.inr hc
      · rcases List.mem_cons.1 hc with hc | hc
        · exact Or.inr hc
        · exact joinH_mem _ _ hc
theorem text6_nodot (L : List Nat) : (46 : UInt8) ∉ text6 L := by
  intro h
  rcases text6_mem L _ h with h | h
  · exact absurd h (by decide)
  · exact absurd h (by decide)
theorem text6_colon (a : Ad) : (58 : UInt8) ∈ text6 (pieceL a) := by
  unfold text6
  split
  · unfold pieceL
    rw [joinH_cons]
    simp
  · simp
theorem text6_ne (a : Ad) : text6 (pieceL a) ≠ [] := fun e => by have := text6_colon a; rw [e] at this; cases this

theorem num1_none {base B : Nat} (hb : dval base 58 = none) : ∀ {l : List UInt8}, 58 ∈ l → num1 base B l = none := by
  intro l h
  have : ∀ acc, pval (dval base) base acc l = none := by
    induction l with
    | nil => cases h
    | cons c r ih =>
      intro acc
      unfold pval
      rcases List.mem_cons.1 h with h | h
      · rw [← h, hb]
      · cases dval base c with
        | none => rfl
        | some d => exact ih h _
  unfold num1
  split
  · rfl
  · rw [this]; rfl
theorem numbers_text6 (a : Ad) : numbersL 46 10 256 (text6 (pieceL a)) = none := by
  unfold numbersL
  rw [if_neg (text6_ne a), split1_none (text6_nodot _)]
  unfold gather
  rw [num1_none (by decide) (text6_colon a)]

theorem best_split {L : List Nat} (h : 0 ≤ (best L).1) : L = L.take (best L).1.toNat ++ List.replicate (best L).2 0 ++ L.drop ((best L).1.toNat + (best L).2) := by
  have ok := best_ok L
  have e := ok.noughts h
  rw [← e, List.append_assoc, ← List.drop_drop, List.take_append_drop, List.take_append_drop]

theorem cut_text6 (a : Ad) : Lib.cut (text6 (pieceL a)) [58, 58] = if (best (pieceL a)).1 < 0 then (joinH (pieceL a), [], false) else (joinH ((pieceL a).take (best (pieceL a)).1.toNat), joinH ((pieceL a).drop ((best (pieceL a)).1.toNat + (best (pieceL a)).2)), true) := by
  unfold text6
  split
  · exact cut_two_none (joinH_nopair _)
  · exact cut_two_hit _ (joinH_nopair _) (joinH_last _)

theorem take_lt {L : List Nat} {B k : Nat} (h : ∀ x ∈ L, x < B) : ∀ x ∈ L.take k, x < B := fun x hx => h x (List.mem_of_mem_take hx)
theorem drop_lt {L : List Nat} {B k : Nat} (h : ∀ x ∈ L, x < B) : ∀ x ∈ L.drop k, x < B := fun x hx => h x (List.mem_of_mem_drop hx)

theorem guess6_text {a : Ad} (ok : a.Ok) (h6 : a.v6 = true) : guess6 (text6 (pieceL a)) = some a := by
  unfold guess6
  rw [cut_text6]
  by_cases h : (best (pieceL a)).1 < 0
  · rw [if_pos h]
    simp only
    rw [numbers_joinH _ (pieceL_lt a) (by rw [pieceL_length]; omega)]
    have e0 : numbersL 58 16 65536 [] = some [] := rfl
    rw [e0]
    simp only
    unfold wholeL
    rw [if_neg (by simp [pieceL_length])]
    simp only [List.length_nil, pieceL_length, List.append_nil]
    rw [show 8 - (8 + 0) = 0 from rfl, List.replicate_zero, List.append_nil, fold_hi ok, fold_lo ok]
    cases a; simp at h6; rw [h6]
  · rw [if_neg h]
    simp only
    have ok2 := best_ok (pieceL a)
    have h0 : 0 ≤ (best (pieceL a)).1 := by omega
    have h1 := ok2.two h0
    have h2 := ok2.le h0
    have e := best_split h0
    rw [pieceL_length] at h2
    rw [numbers_joinH _ (take_lt (pieceL_lt a)) (by rw [List.length_take, pieceL_length]; omega), numbers_joinH _ (drop_lt (pieceL_lt a)) (by rw [List.length_drop, pieceL_length]; omega)]
    simp only
    unfold wholeL
    have el : ((pieceL a).take (best (pieceL a)).1.toNat).length + ((pieceL a).drop ((best (pieceL a)).1.toNat + (best (pieceL a)).2)).length = 8 - (best (pieceL a)).2 := by
      rw [List.length_take, List.length_drop, pieceL_length]
      omega
    rw [el, if_neg (by simp; omega), show 8 - (8 - (best (pieceL a)).2) = (best (pieceL a)).2 by omega, ← e, fold_hi ok, fold_lo ok]
    cases a; simp at h6; rw [h6]

theorem textL_4 {a : Ad} (hm : a.may = true) (h6 : a.v6 = false) : textL a = text4 a.lo := by
  unfold textL
  rw [hm, h6]
  simp
theorem textL_6 {a : Ad} (h6 : a.v6 = true) : textL a = text6 (pieceL a) := by
  unfold textL Ad.may
  rw [h6]
  simp
theorem may4 {a : Ad} (hm : a.may = true) (h6 : a.v6 = false) : a.hi = 0 ∧ a.lo < 4294967296 := by
  unfold Ad.may at hm
  rw [h6] at hm
  simpa using hm
theorem may6 {a : Ad} (h6 : a.v6 = true) : a.may = true := by unfold Ad.may; rw [h6]; rfl

theorem guessP_text {a : Ad} (ok : a.Ok) (hm : a.may = true) : guessP (textL a) = some a := by
  unfold guessP
  cases h6 : a.v6 with
  | true =>
    rw [textL_6 h6, numbers_text6]
    exact guess6_text ok h6
  | false =>
    obtain ⟨h0, h1⟩ := may4 hm h6
    rw [textL_4 hm h6, numbers_text4]
    simp only
    rw [if_pos (by simp [lo4]), fold8_lo4 h1]
    cases a; simp at h6 h0; rw [h6, h0]
theorem read_text {a : Ad} (ok : a.Ok) (hm : a.may = true) : readL (textL a) = some a := by
  unfold readL
  rw [guessP_text ok hm]
  simp

theorem textL_nil {a : Ad} (hm : a.may = false) : textL a = [] := by unfold textL; rw [if_pos hm]

/- What is guessed may be. -/
theorem fold16_lt : ∀ (l : List Nat) (h0 B : Nat), (∀ x ∈ l, x < 65536) → h0 < B → l.foldl (fun h x => h * 65536 + x) h0 < B * 65536 ^ l.length := by
  intro l
  induction l with
  | nil => intro h0 B _ h; simpa using h
  | cons x r ih =>
    intro h0 B hx h
    have := ih (h0 * 65536 + x) (B * 65536) (fun y hy => hx y (List.mem_cons_of_mem _ hy)) (by have := hx x (List.mem_cons_self ..); omega)
    rw [List.foldl_cons, List.length_cons, Nat.pow_succ, Nat.mul_comm (65536 ^ r.length), ← Nat.mul_assoc]
    exact this
theorem fold8_lt : ∀ (l : List Nat) (h0 B : Nat), (∀ x ∈ l, x < 256) → h0 < B → l.foldl (fun h x => h * 256 + x) h0 < B * 256 ^ l.length := by
  intro l
  induction l with
  | nil => intro h0 B _ h; simpa using h
  | cons x r ih =>
    intro h0 B hx h
    have := ih (h0 * 256 + x) (B * 256) (fun y hy => hx y (List.mem_cons_of_mem _ hy)) (by have := hx x (List.mem_cons_self ..); omega)
    rw [List.foldl_cons, List.length_cons, Nat.pow_succ, Nat.mul_comm (256 ^ r.length), ← Nat.mul_assoc]
    exact this
theorem wholeL_ok {f b : List Nat} {g : Bool} {a : Ad} (h : wholeL f b g = some a) (hf : ∀ x ∈ f, x < 65536) (hb : ∀ x ∈ b, x < 65536) : a.Ok ∧ a.v6 = true := by
  unfold wholeL at h
  split at h
  · cases h
  · next hn =>
    have hl : f.length + b.length ≤ 8 := by cases g <;> simp at hn <;> omega
    cases h
    have hall : ∀ x ∈ f ++ List.replicate (8 - (f.length + b.length)) 0 ++ b, x < 65536 := by
      intro x hx
      rcases List.mem_append.1 hx with hx | hx
      · rcases List.mem_append.1 hx with hx | hx
        · exact hf x hx
        · rw [(List.mem_replicate.1 hx).2]; decide
      · exact hb x hx
    have hlen : (f ++ List.replicate (8 - (f.length + b.length)) 0 ++ b).length = 8 := by simp; omega
    generalize f ++ List.replicate (8 - (f.length + b.length)) 0 ++ b = A at hall hlen ⊢
    have h1 := fold16_lt (A.take 4) 0 1 (take_lt hall) (by decide)
    have h2 := fold16_lt (A.drop 4) 0 1 (drop_lt hall) (by decide)
    rw [List.length_take, hlen] at h1
    rw [List.length_drop, hlen] at h2
    exact ⟨⟨by simpa [fold16] using h1, by simpa [fold16] using h2⟩, rfl⟩
theorem guess6_ok {s : List UInt8} {a : Ad} (h : guess6 s = some a) : a.Ok ∧ a.v6 = true := by
  unfold guess6 at h
  split at h
  · next f b hf hb => exact wholeL_ok h (numbersL_lt hf).1 (numbersL_lt hb).1
  · cases h
theorem guessP_ok {s : List UInt8} {a : Ad} (h : guessP s = some a) : a.Ok ∧ a.may = true := by
  unfold guessP at h
  split at h
  · next l hl =>
    split at h
    · next h4 =>
      cases h
      have := fold8_lt l 0 1 (numbersL_lt hl).1 (by decide)
      rw [h4] at this
      have h2 : fold8 l < 4294967296 := by unfold fold8; omega
      exact ⟨⟨by show (0 : Nat) < _; omega, by show fold8 l < _; omega⟩, by simp [Ad.may, h2]⟩
    · exact ⟨(guess6_ok h).1, may6 (guess6_ok h).2⟩
  · exact ⟨(guess6_ok h).1, may6 (guess6_ok h).2⟩
theorem readL_some {s : List UInt8} {a : Ad} (h : readL s = some a) : textL a = s ∧ a.Ok ∧ a.may = true := by
  unfold readL at h
  cases e : guessP s with
  | none => rw [e] at h; cases h
  | some b =>
    rw [e] at h
    simp only [Option.bind_some] at h
    split at h
    · next ht => cases h; exact ⟨ht, guessP_ok e⟩
    · cases h
end Go.Proofs.YtbiglifngfgffaaGreatDoor

/- Addresses read off texts: the document's guess; prefixes. -/
namespace Go.Proofs.YtbiglifngfgffaaGreatDoor

/- How long texts are. -/
theorem joinH_len : ∀ L : List Nat, (∀ x ∈ L, x < 65536) → (joinH L).length ≤ 5 * L.length := by
  intro L
  induction L with
  | nil => intro _; simp [joinH_nil]
  | cons x r ih =>
    intro h
    have hx := hexL_len x (h x (List.mem_cons_self ..))
    cases r with
    | nil => rw [joinH_one]; simp; omega
    | cons y r =>
      have := ih fun z hz => h z (List.mem_cons_of_mem _ hz)
      rw [joinH_cons]
      simp only [List.length_append, List.length_cons] at *
      omega
theorem textL_len (a : Ad) : (textL a).length ≤ 60 := by
  unfold textL
  split
  · simp
  · split
    · have h := lo4_lt a.lo
      have : ∀ x ∈ lo4 a.lo, (Lib.decDigits x).length ≤ 3 := fun x hx => decL_len x (by have := h x hx; omega)
      unfold text4
      simp only [lo4, List.map_cons, List.map_nil, join_two, Lib.join_one, List.length_append] at *
      have a1 := this _ (List.mem_cons_self ..)
      have a2 := this _ (List.mem_cons_of_mem _ (List.mem_cons_self ..))
      have a3 := this _ (List.mem_cons_of_mem _ (List.mem_cons_of_mem _ (List.mem_cons_self ..)))
      have a4 := this _ (List.mem_cons_of_mem _ (List.mem_cons_of_mem _ (List.mem_cons_of_mem _ (List.mem_cons_self ..))))
      simp only [dot, List.length_singleton]
      omega
    · unfold text6
      split
      · have := joinH_len _ (pieceL_lt a)
        rw [pieceL_length] at this
        omega
      · have h1 := joinH_len _ (take_lt (k := (best (pieceL a)).1.toNat) (pieceL_lt a))
        have h2 := joinH_len _ (drop_lt (k := (best (pieceL a)).1.toNat + (best (pieceL a)).2) (pieceL_lt a))
        rw [List.length_take, pieceL_length] at h1
        rw [List.length_drop, pieceL_length] at h2
        simp only [List.length_append, List.length_cons]
        omega

end Go.Proofs.YtbiglifngfgffaaGreatDoor

/- Prefixes: the plain law. -/
namespace Go.Proofs.YtbiglifngfgffaaGreatDoor

def Ad.size (a : Ad) : Nat := if a.v6 then 128 else 32
def Ad.val (a : Ad) : Nat := if a.v6 then a.hi * 2 ^ 64 + a.lo else a.lo
def pmay (p : Pf) : Bool := p.a.may && decide (p.bits ≤ p.a.size) && decide (p.a.val % 2 ^ (p.a.size - p.bits) = 0)
def ptext (p : Pf) : List UInt8 := if pmay p = true then textL p.a ++ 47 :: Lib.decDigits p.bits else []
/- The program's way to read a prefix, and the document's. -/
def preadL (s : List UInt8) : Option Pf :=
  if (Lib.cut s [47]).2.2 = false then none
  else match readL (Lib.cut s [47]).1, num1 10 256 (Lib.cut s [47]).2.1 with
    | some a, some n => if ptext ⟨a, n⟩ = s then some ⟨a, n⟩ else none
    | _, _ => none
theorem pmay_may {p : Pf} (h : pmay p = true) : p.a.may = true ∧ p.bits ≤ p.a.size := by
  unfold pmay at h
  simp only [Bool.and_eq_true, decide_eq_true_eq] at h
  exact h.1
theorem size_le (a : Ad) : a.size ≤ 128 := by unfold Ad.size; split <;> omega
theorem textL_noslash (a : Ad) : (47 : UInt8) ∉ textL a := by
  intro h
  unfold textL at h
  split at h
  · cases h
  · split at h
    · have : ∀ (xs : List (List UInt8)) (c : UInt8), c ∈ Lib.join xs dot → c = 46 ∨ ∃ x ∈ xs, c ∈ x := by
        intro xs
        induction xs with
        | nil => intro c hc; cases hc
        | cons x r ih =>
          intro c hc
          cases r with
          | nil => rw [Lib.join_one] at hc; exact Or.inr ⟨x, List.mem_cons_self .., hc⟩
          | cons y r =>
            rw [join_two] at hc
            rcases List.mem_append.1 hc with hc | hc
            · exact Or.inr ⟨x, List.mem_cons_self .., hc⟩
            · rcases List.mem_append.1 hc with hc | hc
              · exact Or.inl (by simpa [dot] using hc)
              · rcases ih c hc with e | ⟨z, hz, hc⟩
                · exact Or.inl e
                · exact Or.inr ⟨z, List.mem_cons_of_mem _ hz, hc⟩
      rcases this _ _ h with e | ⟨x, hx, hc⟩
      · exact absurd e (by decide)
      · exact dec_free (c := 47) (by decide) _ x hx hc
    · rcases text6_mem _ _ h with h | h
      · exact absurd h (by decide)
      · exact absurd h (by decide)
theorem ptext_of {p : Pf} (h : ptext p ≠ []) : pmay p = true := by
  unfold ptext at h
  split at h
  · assumption
  · exact absurd rfl h

theorem preadL_text {p : Pf} (ok : p.Ok) (h : pmay p = true) : preadL (ptext p) = some p := by
  have h1 := pmay_may h
  have e : ptext p = textL p.a ++ 47 :: Lib.decDigits p.bits := by unfold ptext; rw [if_pos h]
  unfold preadL
  have hc : Lib.cut (ptext p) [47] = (textL p.a, Lib.decDigits p.bits, true) := by rw [e]; exact cut_one_hit _ (textL_noslash _)
  rw [hc]
  simp only
  rw [if_neg (by decide), read_text ok.a h1.1, decL_num p.bits ok.bits]
  simp
theorem preadL_some {s : List UInt8} {p : Pf} (h : preadL s = some p) : ptext p = s ∧ p.Ok ∧ pmay p = true := by
  unfold preadL at h
  split at h
  · cases h
  · next hn =>
    split at h
    · next a n ha hb =>
      split at h
      · next ht =>
        cases h
        have hs : s ≠ [] := by rintro rfl; exact hn rfl
        exact ⟨ht, ⟨(readL_some ha).2.1, num1_lt hb⟩, ptext_of (by rw [ht]; exact hs)⟩
      · cases h
    · cases h
end Go.Proofs.YtbiglifngfgffaaGreatDoor
