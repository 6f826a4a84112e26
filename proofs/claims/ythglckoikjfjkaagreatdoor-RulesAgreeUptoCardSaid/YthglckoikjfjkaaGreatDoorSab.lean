/- Joined out of: TxC TxD TxE PoA PoB PoC PoD PoF PlA PuA Env PuB PuC. -/
import Derived.Test.YthglckoikjfjkaaGreatDoorSaa
import Derived.Shelf.Strings.SlTrimAscii
import Derived.Lib.ParseIntB
import Derived.Test.YthglckoikjfjkaaGreatDoorProg
import Derived.Lib.LaidTab
import Derived.Lib.AppendIntMem
import Derived.Lib.ItoaNum
import Derived.Lib.ConvBytes
import Derived.Lib.AtoiErrMem
import Derived.Lib.Strings
import Derived.Laws.BitsAllLaws
set_option linter.unusedVariables false
set_option linter.unusedSimpArgs false

/- Addresses read off texts: the plain law, of the program's guess and of the document's. -/
namespace Go.Proofs.YthglckoikjfjkaaGreatDoor

def gather (base B : Nat) : List (List UInt8) → List Nat → Option (List Nat)
  | [], acc => some acc
  | t :: r, acc => match num1 base B t with
    | none => none
    | some n => if 8 < acc.length then none else gather base B r (acc ++ [n])
def numbersL (c : UInt8) (base B : Nat) (s : List UInt8) : Option (List Nat) := if s = [] then some [] else gather base B (split1 c s) []
def fold16 (l : List Nat) : Nat := l.foldl (fun h x => h * 65536 + x) 0
def fold8 (l : List Nat) : Nat := l.foldl (fun h x => h * 256 + x) 0
def wholeL (front back : List Nat) (gap : Bool) : Option Ad :=
  if (gap = false ∧ front.length + back.length ≠ 8) ∨ (gap = true ∧ 7 < front.length + back.length) then none
  else some ⟨true, fold16 ((front ++ List.replicate (8 - (front.length + back.length)) 0 ++ back).take 4), fold16 ((front ++ List.replicate (8 - (front.length + back.length)) 0 ++ back).drop 4)⟩
def guess6 (s : List UInt8) : Option Ad :=
  match numbersL 58 16 65536 (Lib.cut s [58, 58]).1, numbersL 58 16 65536 (Lib.cut s [58, 58]).2.1 with
  | some f, some b => wholeL f b (Lib.cut s [58, 58]).2.2
  | _, _ => none
def guessP (s : List UInt8) : Option Ad :=
  match numbersL 46 10 256 s with
  | some l => if l.length = 4 then some ⟨false, 0, fold8 l⟩ else guess6 s
  | none => guess6 s
def readL (s : List UInt8) : Option Ad := (guessP s).bind fun a => if textL a = s then some a else none

theorem gather_lt {base B : Nat} : ∀ (l : List (List UInt8)) (acc L : List Nat), gather base B l acc = some L → (∀ x ∈ acc, x < B) → acc.length ≤ 9 → (∀ x ∈ L, x < B) ∧ L.length ≤ 9 := by
  intro l
  induction l with
  | nil => intro acc L h ha hl; simp [gather] at h; subst h; exact ⟨ha, hl⟩
  | cons t r ih =>
    intro acc L h ha hl
    unfold gather at h
    split at h
    · cases h
    · next n hn =>
      split at h
      · cases h
      · refine ih _ _ h ?_ (by simp; omega)
        intro x hx
        rcases List.mem_append.1 hx with hx | hx
        · exact ha x hx
        · rw [List.mem_singleton.1 hx]; exact num1_lt hn
theorem numbersL_lt {c : UInt8} {base B : Nat} {s : List UInt8} {L : List Nat} (h : numbersL c base B s = some L) : (∀ x ∈ L, x < B) ∧ L.length ≤ 9 := by
  unfold numbersL at h
  split at h
  · cases h; exact ⟨by simp, by simp⟩
  · exact gather_lt _ _ _ h (by simp) (by simp)

theorem lo4_lt (lo : Nat) : ∀ x ∈ lo4 lo, x < 256 := by
  intro x hx
  simp only [lo4, List.mem_cons, List.mem_nil_iff, or_false] at hx
  omega
theorem text4_ne (lo : Nat) : text4 lo ≠ [] := by
  unfold text4 lo4
  rw [List.map_cons, List.map_cons, join_two]
  simp [decL_ne]
theorem pieceL_lt (a : Ad) : ∀ x ∈ pieceL a, x < 65536 := by
  intro x hx
  simp only [pieceL, List.mem_cons, List.mem_nil_iff, or_false] at hx
  omega
theorem pieceL_length (a : Ad) : (pieceL a).length = 8 := rfl
theorem text6_colon (a : Ad) : (58 : UInt8) ∈ text6 (pieceL a) := by
  unfold text6
  split
  · unfold pieceL
    rw [joinH_cons]
    simp
  · simp
theorem text6_ne (a : Ad) : text6 (pieceL a) ≠ [] := fun e => by have := text6_colon a; rw [e] at this; cases this

theorem take_lt {L : List Nat} {B k : Nat} (h : ∀ x ∈ L, x < B) : ∀ x ∈ L.take k, x < B := fun x hx => h x (List.mem_of_mem_take hx)
theorem drop_lt {L : List Nat} {B k : Nat} (h : ∀ x ∈ L, x < B) : ∀ x ∈ L.drop k, x < B := fun x hx => h x (List.mem_of_mem_drop hx)

theorem textL_4 {a : Ad} (hm : a.may = true) (h6 : a.v6 = false) : textL a = text4 a.lo := by
  unfold textL
  rw [hm, h6]
  simp
theorem textL_6 {a : Ad} (h6 : a.v6 = true) : textL a = text6 (pieceL a) := by
  unfold textL Ad.may
  rw [h6]
  simp
theorem may4 {a : Ad} (hm : a.may = true) (h6 : a.v6 = false) : a.hi = 0 ∧ a.lo < 4294967296 := by
  unfold Ad.may at hm
  rw [h6] at hm
  simpa using hm
theorem may6 {a : Ad} (h6 : a.v6 = true) : a.may = true := by unfold Ad.may; rw [h6]; rfl

theorem textL_ne {a : Ad} (hm : a.may = true) : textL a ≠ [] := by
  cases h6 : a.v6 with
  | true => rw [textL_6 h6]; exact text6_ne a
  | false => rw [textL_4 hm h6]; exact text4_ne _
theorem textL_nil {a : Ad} (hm : a.may = false) : textL a = [] := by unfold textL; rw [if_pos hm]

/- What is guessed may be. -/
theorem fold16_lt : ∀ (l : List Nat) (h0 B : Nat), (∀ x ∈ l, x < 65536) → h0 < B → l.foldl (fun h x => h * 65536 + x) h0 < B * 65536 ^ l.length := by
  intro l
  induction l with
  | nil => intro h0 B _ h; simpa using h
  | cons x r ih =>
    intro h0 B hx h
    have := ih (h0 * 65536 + x) (B * 65536) (fun y hy => hx y (List.mem_cons_of_mem _ hy)) (by have := hx x (List.mem_cons_self ..); omega)
    rw [List.foldl_cons, List.length_cons, Nat.pow_succ, Nat.mul_comm (65536 ^ r.length), ← Nat.mul_assoc]
    exact this
theorem fold8_lt : ∀ (l : List Nat) (h0 B : Nat), (∀ x ∈ l, x < 256) → h0 < B → l.foldl (fun h x => h * 256 + x) h0 < B * 256 ^ l.length := by
  intro l
  induction l with
  | nil => intro h0 B _ h; simpa using h
  | cons x r ih =>
    intro h0 B hx h
    have := ih (h0 * 256 + x) (B * 256) (fun y hy => hx y (List.mem_cons_of_mem _ hy)) (by have := hx x (List.mem_cons_self ..); omega)
    rw [List.foldl_cons, List.length_cons, Nat.pow_succ, Nat.mul_comm (256 ^ r.length), ← Nat.mul_assoc]
    exact this
theorem wholeL_ok {f b : List Nat} {g : Bool} {a : Ad} (h : wholeL f b g = some a) (hf : ∀ x ∈ f, x < 65536) (hb : ∀ x ∈ b, x < 65536) : a.Ok ∧ a.v6 = true := by
  unfold wholeL at h
  split at h
  · cases h
  · next hn =>
    have hl : f.length + b.length ≤ 8 := by cases g <;> simp at hn <;> omega
    cases h
    have hall : ∀ x ∈ f ++ List.replicate (8 - (f.length + b.length)) 0 ++ b, x < 65536 := by
      intro x hx
      rcases List.mem_append.1 hx with hx | hx
      · rcases List.mem_append.1 hx with hx | hx
        · exact hf x hx
        · rw [(List.mem_replicate.1 hx).2]; decide
      · exact hb x hx
    have hlen : (f ++ List.replicate (8 - (f.length + b.length)) 0 ++ b).length = 8 := by simp; omega
    generalize f ++ List.replicate (8 - (f.length + b.length)) 0 ++ b = A at hall hlen ⊢
    have h1 := fold16_lt (A.take 4) 0 1 (take_lt hall) (by decide)
    have h2 := fold16_lt (A.drop 4) 0 1 (drop_lt hall) (by decide)
    rw [List.length_take, hlen] at h1
    rw [List.length_drop, hlen] at h2
    exact ⟨⟨by simpa [fold16] using h1, by simpa [fold16] using h2⟩, rfl⟩
theorem guess6_ok {s : List UInt8} {a : Ad} (h : guess6 s = some a) : a.Ok ∧ a.v6 = true := by
  unfold guess6 at h
  split at h
  · next f b hf hb => exact wholeL_ok h (numbersL_lt hf).1 (numbersL_lt hb).1
  · cases h
theorem guessP_ok {s : List UInt8} {a : Ad} (h : guessP s = some a) : a.Ok ∧ a.may = true := by
  unfold guessP at h
  split at h
  · next l hl =>
    split at h
    · next h4 =>
      cases h
      have := fold8_lt l 0 1 (numbersL_lt hl).1 (by decide)
      rw [h4] at this
      have h2 : fold8 l < 4294967296 := by unfold fold8; omega
      exact ⟨⟨by show (0 : Nat) < _; omega, by show fold8 l < _; omega⟩, by simp [Ad.may, h2]⟩
    · exact ⟨(guess6_ok h).1, may6 (guess6_ok h).2⟩
  · exact ⟨(guess6_ok h).1, may6 (guess6_ok h).2⟩
theorem readL_some {s : List UInt8} {a : Ad} (h : readL s = some a) : textL a = s ∧ a.Ok ∧ a.may = true := by
  unfold readL at h
  cases e : guessP s with
  | none => rw [e] at h; cases h
  | some b =>
    rw [e] at h
    simp only [Option.bind_some] at h
    split at h
    · next ht => cases h; exact ⟨ht, guessP_ok e⟩
    · cases h
end Go.Proofs.YthglckoikjfjkaaGreatDoor

/- Addresses read off texts: the document's guess; prefixes. -/
namespace Go.Proofs.YthglckoikjfjkaaGreatDoor

/- How long texts are. -/
theorem joinH_len : ∀ L : List Nat, (∀ x ∈ L, x < 65536) → (joinH L).length ≤ 5 * L.length := by
  intro L
  induction L with
  | nil => intro _; simp [joinH_nil]
  | cons x r ih =>
    intro h
    have hx := hexL_len x (h x (List.mem_cons_self ..))
    cases r with
    | nil => rw [joinH_one]; simp; omega
    | cons y r =>
      have := ih fun z hz => h z (List.mem_cons_of_mem _ hz)
      rw [joinH_cons]
      simp only [List.length_append, List.length_cons] at *
      omega
theorem textL_len (a : Ad) : (textL a).length ≤ 60 := by
  unfold textL
  split
  · simp
  · split
    · have h := lo4_lt a.lo
      have : ∀ x ∈ lo4 a.lo, (Lib.decDigits x).length ≤ 3 := fun x hx => decL_len x (by have := h x hx; omega)
      unfold text4
      simp only [lo4, List.map_cons, List.map_nil, join_two, Lib.join_one, List.length_append] at *
      have a1 := this _ (List.mem_cons_self ..)
      have a2 := this _ (List.mem_cons_of_mem _ (List.mem_cons_self ..))
      have a3 := this _ (List.mem_cons_of_mem _ (List.mem_cons_of_mem _ (List.mem_cons_self ..)))
      have a4 := this _ (List.mem_cons_of_mem _ (List.mem_cons_of_mem _ (List.mem_cons_of_mem _ (List.mem_cons_self ..))))
      simp only [dot, List.length_singleton]
      omega
    · unfold text6
      split
      · have := joinH_len _ (pieceL_lt a)
        rw [pieceL_length] at this
        omega
      · have h1 := joinH_len _ (take_lt (k := (best (pieceL a)).1.toNat) (pieceL_lt a))
        have h2 := joinH_len _ (drop_lt (k := (best (pieceL a)).1.toNat + (best (pieceL a)).2) (pieceL_lt a))
        rw [List.length_take, pieceL_length] at h1
        rw [List.length_drop, pieceL_length] at h2
        simp only [List.length_append, List.length_cons]
        omega

end Go.Proofs.YthglckoikjfjkaaGreatDoor

/- Prefixes: the plain law. -/
namespace Go.Proofs.YthglckoikjfjkaaGreatDoor

def Ad.size (a : Ad) : Nat := if a.v6 then 128 else 32
def Ad.val (a : Ad) : Nat := if a.v6 then a.hi * 2 ^ 64 + a.lo else a.lo
def pmay (p : Pf) : Bool := p.a.may && decide (p.bits ≤ p.a.size) && decide (p.a.val % 2 ^ (p.a.size - p.bits) = 0)
def ptext (p : Pf) : List UInt8 := if pmay p = true then textL p.a ++ 47 :: Lib.decDigits p.bits else []
def holdsP (p : Pf) (a : Ad) : Bool := pmay p && a.may && (p.a.v6 == a.v6) && decide (a.val / 2 ^ (p.a.size - p.bits) = p.a.val / 2 ^ (p.a.size - p.bits))
def lessA (a b : Ad) : Bool := if a.v6 != b.v6 then b.v6 else if a.hi ≠ b.hi then decide (a.hi < b.hi) else decide (a.lo < b.lo)

/- The program's way to read a prefix, and the document's. -/
def preadL (s : List UInt8) : Option Pf :=
  if (Lib.cut s [47]).2.2 = false then none
  else match readL (Lib.cut s [47]).1, num1 10 256 (Lib.cut s [47]).2.1 with
    | some a, some n => if ptext ⟨a, n⟩ = s then some ⟨a, n⟩ else none
    | _, _ => none
theorem pmay_may {p : Pf} (h : pmay p = true) : p.a.may = true ∧ p.bits ≤ p.a.size := by
  unfold pmay at h
  simp only [Bool.and_eq_true, decide_eq_true_eq] at h
  exact h.1
theorem size_le (a : Ad) : a.size ≤ 128 := by unfold Ad.size; split <;> omega
theorem ptext_of {p : Pf} (h : ptext p ≠ []) : pmay p = true := by
  unfold ptext at h
  split at h
  · assumption
  · exact absurd rfl h

theorem preadL_some {s : List UInt8} {p : Pf} (h : preadL s = some p) : ptext p = s ∧ p.Ok ∧ pmay p = true := by
  unfold preadL at h
  split at h
  · cases h
  · next hn =>
    split at h
    · next a n ha hb =>
      split at h
      · next ht =>
        cases h
        have hs : s ≠ [] := by rintro rfl; exact hn rfl
        exact ⟨ht, ⟨(readL_some ha).2.1, num1_lt hb⟩, ptext_of (by rw [ht]; exact hs)⟩
      · cases h
    · cases h
end Go.Proofs.YthglckoikjfjkaaGreatDoor

/- A policy as data; its text read and written: the definitions. -/
namespace Go.Proofs.YthglckoikjfjkaaGreatDoor
open Go.RowKit

/- A policy as data. -/
structure Sel where
  kind : Nat
  name : ByteArray
  net : Pf
structure Nm where
  name : ByteArray
  list : List ByteArray
structure Hs where
  name : ByteArray
  net : Pf
structure Ac where
  protos : List Nat
  src : List Sel
  dst : List Sel
  ports : List (Nat × Nat)
structure Po where
  groups : List Nm
  tags : List Nm
  hosts : List Hs
  acls : List Ac
deriving instance DecidableEq for Ad
deriving instance DecidableEq for Pf
deriving instance DecidableEq for Sel
deriving instance DecidableEq for Nm
deriving instance DecidableEq for Hs
deriving instance DecidableEq for Ac
deriving instance DecidableEq for Po
def Ad.zero : Ad := ⟨false, 0, 0⟩
def Pf.zero : Pf := ⟨Ad.zero, 0⟩
def Po.zero : Po := ⟨[], [], [], []⟩
/- Names. -/
def az (c : UInt8) : Bool := decide (97 ≤ c.toNat ∧ c.toNat ≤ 122)
def labc (c : UInt8) : Bool := az c || decide (48 ≤ c.toNat ∧ c.toNat ≤ 57) || decide (c = 46) || decide (c = 95) || decide (c = 45)
def labelL (s : List UInt8) : Bool := match s with
  | [] => false
  | c :: r => decide (r.length < 32) && az c && r.all labc
def labelB (s : ByteArray) : Bool := labelL s.data.toList
/- The words of a line: between blanks and tabs, up to the first one that begins with '#'. -/
def blank (c : UInt8) : Bool := decide (c = 32) || decide (c = 9)
def fieldsGo (cur : List UInt8) : List UInt8 → List (List UInt8)
  | [] => if cur = [] then [] else [cur]
  | c :: r => if blank c = true then (if cur = [] then fieldsGo [] r else cur :: fieldsGo [] r) else fieldsGo (cur ++ [c]) r
def fieldsB (s : List UInt8) : List (List UInt8) := fieldsGo [] s
def plainWord (w : List UInt8) : Bool := match w with
  | [] => true
  | c :: _ => decide (c ≠ 35)
def ofL (l : List UInt8) : ByteArray := ⟨l.toArray⟩
def wordsL (s : List UInt8) : List ByteArray := ((fieldsB s).takeWhile plainWord).map ofL
/- The words that a policy is written with. -/
def W_group : ByteArray := ⟨#[103, 114, 111, 117, 112]⟩
def W_tag : ByteArray := ⟨#[116, 97, 103]⟩
def W_host : ByteArray := ⟨#[104, 111, 115, 116]⟩
def W_accept : ByteArray := ⟨#[97, 99, 99, 101, 112, 116]⟩
def W_eq : ByteArray := ⟨#[61]⟩
def W_any : ByteArray := ⟨#[97, 110, 121]⟩
def W_from : ByteArray := ⟨#[102, 114, 111, 109]⟩
def W_to : ByteArray := ⟨#[116, 111]⟩
def W_ports : ByteArray := ⟨#[112, 111, 114, 116, 115]⟩
def W_star : ByteArray := ⟨#[42]⟩
def W_user : ByteArray := ⟨#[117, 115, 101, 114]⟩
def W_net : ByteArray := ⟨#[110, 101, 116]⟩
def W_icmp : ByteArray := ⟨#[105, 99, 109, 112]⟩
def W_tcp : ByteArray := ⟨#[116, 99, 112]⟩
def W_udp : ByteArray := ⟨#[117, 100, 112]⟩
/- What is told. -/
def hasN (l : List Nm) (s : ByteArray) : Bool := l.any fun n => decide (n.name = s)
def hasH (l : List Hs) (s : ByteArray) : Bool := l.any fun n => decide (n.name = s)
def knownP (p : Po) (s : Sel) : Bool := if s.kind = 3 then hasN p.groups s.name else if s.kind = 4 then hasN p.tags s.name else if s.kind = 5 then hasH p.hosts s.name else true
abbrev Bad := Nat × Nat
def namesGo : List ByteArray → Nat → Nat → Except Bad (List ByteArray)
  | [], _, _ => .ok []
  | s :: r, i, c => if labelB s = false then .error (191, i) else if 64 ≤ c then .error (198, i) else (namesGo r (i + 1) (c + 1)).map (s :: ·)
def namedP (ws : List ByteArray) (told : List Nm) : Except Bad Nm :=
  if 64 ≤ told.length then .error (198, 0) else
  match ws with
  | _ :: nm :: r =>
    if labelB nm = false then .error (191, 1) else if hasN told nm = true then .error (197, 1) else
    match r with
    | e :: r' => if e ≠ W_eq then .error (190, 2) else if r' = [] then .error (190, 3) else (namesGo r' 3 0).map (⟨nm, ·⟩)
    | [] => .error (190, 2)
  | _ => .error (190, ws.length)
def hostP (ws : List ByteArray) (told : List Hs) : Except Bad Hs :=
  if 64 ≤ told.length then .error (198, 0) else
  match ws with
  | _ :: nm :: r =>
    if labelB nm = false then .error (191, 1) else if hasH told nm = true then .error (197, 1) else
    match r with
    | e :: r' => if e ≠ W_eq then .error (190, 2) else
      match r' with
      | [] => .error (190, 3)
      | t :: r'' => match preadL t.data.toList with
        | none => .error (192, 3)
        | some n => if r'' ≠ [] then .error (190, 4) else .ok ⟨nm, n⟩
    | [] => .error (190, 2)
  | _ => .error (190, ws.length)
def protoN (w : List UInt8) : Nat := if ofL w = W_icmp then 1 else if ofL w = W_tcp then 6 else if ofL w = W_udp then 17 else 0
def protosGo (last : Nat) : List (List UInt8) → Option (List Nat)
  | [] => some []
  | w :: r => if protoN w = 0 ∨ protoN w ≤ last then none else (protosGo (protoN w) r).map (protoN w :: ·)
def protosP (w : ByteArray) : Option (List Nat) := if w = W_any then some [] else protosGo 0 (split1 44 w.data.toList)
def kindN (w : List UInt8) : Nat := if ofL w = W_user then 2 else if ofL w = W_group then 3 else if ofL w = W_tag then 4 else if ofL w = W_host then 5 else if ofL w = W_net then 6 else 0
def selP (w : ByteArray) : Option Sel :=
  if w = W_star then some ⟨1, ByteArray.empty, Pf.zero⟩ else
  let c := Lib.cut w.data.toList [58]
  if kindN c.1 = 6 then (preadL c.2.1).map fun n => ⟨6, ByteArray.empty, n⟩
  else if 0 < kindN c.1 ∧ labelL c.2.1 = true then some ⟨kindN c.1, ofL c.2.1, Pf.zero⟩ else none
def selsGo (en : ByteArray) : List ByteArray → Nat → Nat → Except Bad (List (Sel × Nat) × List ByteArray)
  | [], i, c => if c = 0 then .error (190, i) else .ok ([], [])
  | w :: r, i, c => if w = en ∧ c ≠ 0 then .ok ([], w :: r) else match selP w with
    | none => .error (195, i)
    | some s => if 64 ≤ c then .error (198, i) else (selsGo en r (i + 1) (c + 1)).map fun x => ((s, i) :: x.1, x.2)
def portN (s : List UInt8) : Option Nat := (num1 10 65536 s).bind fun n => if Lib.decDigits n = s then some n else none
def portsP (w : ByteArray) : Option (Nat × Nat) :=
  let c := Lib.cut w.data.toList [45]
  match portN c.1, portN (if c.2.2 = true then c.2.1 else c.1) with
  | some a, some b => if a ≤ b then some (a, b) else none
  | _, _ => none
def portsGo : List ByteArray → Nat → Nat → Except Bad (List (Nat × Nat))
  | [], _, _ => .ok []
  | w :: r, i, c => match portsP w with
    | none => .error (193, i)
    | some x => if 64 ≤ c then .error (198, i) else (portsGo r (i + 1) (c + 1)).map (x :: ·)
/- An accept, and its selectors with their places. -/
def acceptP (ws : List ByteArray) (told : Nat) : Except Bad (Ac × List (Sel × Nat)) :=
  if 64 ≤ told then .error (198, 0) else
  match ws with
  | _ :: pr :: r => match protosP pr with
    | none => .error (194, 1)
    | some ps => match r with
      | [] => .error (190, 2)
      | f :: r' => if f ≠ W_from then .error (190, 2) else
        match selsGo W_to r' 3 0 with
        | .error e => .error e
        | .ok (src, r2) => match r2 with
          | [] => .error (190, ws.length)
          | _ :: r3 => match selsGo W_ports r3 (ws.length - r3.length) 0 with
            | .error e => .error e
            | .ok (dst, r4) => match r4 with
              | [] => .ok (⟨ps, src.map (·.1), dst.map (·.1), []⟩, src ++ dst)
              | _ :: r5 => if r5 = [] then .error (190, ws.length) else
                (portsGo r5 (ws.length - r5.length) 0).map fun po => (⟨ps, src.map (·.1), dst.map (·.1), po⟩, src ++ dst)
  | _ => .error (190, ws.length)
/- What stands so far, and who was named where. -/
structure Bag where
  p : Po
  used : List (Sel × Nat × Nat)
def lineP (b : Bag) (n : Nat) (ws : List ByteArray) : Except Bad Bag := match ws with
  | [] => .ok b
  | w :: _ =>
    if w = W_group then (namedP ws b.p.groups).map fun x => { b with p := { b.p with groups := b.p.groups ++ [x] } }
    else if w = W_tag then (namedP ws b.p.tags).map fun x => { b with p := { b.p with tags := b.p.tags ++ [x] } }
    else if w = W_host then (hostP ws b.p.hosts).map fun x => { b with p := { b.p with hosts := b.p.hosts ++ [x] } }
    else if w = W_accept then (acceptP ws b.p.acls.length).map fun x => { p := { b.p with acls := b.p.acls ++ [x.1] }, used := b.used ++ x.2.map fun y => (y.1, n, y.2) }
    else .error (190, 0)
abbrev Flt := Nat × Nat × Nat
def linesP : List (List UInt8) → Nat → Bag → Except Flt Bag
  | [], _, b => .ok b
  | l :: r, n, b => match lineP b n (wordsL l) with
    | .error e => .error (e.1, n, e.2)
    | .ok b' => linesP r (n + 1) b'
def parseP (s : List UInt8) : Po × Flt :=
  if 8192 < s.length then (Po.zero, (4, 0, 0)) else
  match linesP (split1 10 s) 1 ⟨Po.zero, []⟩ with
  | .error e => (Po.zero, e)
  | .ok b => match b.used.find? fun u => !knownP b.p u.1 with
    | some u => (Po.zero, (196, u.2))
    | none => (b.p, (0, 0, 0))
/- How a policy is written. -/
def selT (s : Sel) : List UInt8 :=
  if s.kind = 1 then [42] else if s.kind = 2 then W_user.data.toList ++ 58 :: s.name.data.toList else if s.kind = 3 then W_group.data.toList ++ 58 :: s.name.data.toList
  else if s.kind = 4 then W_tag.data.toList ++ 58 :: s.name.data.toList else if s.kind = 5 then W_host.data.toList ++ 58 :: s.name.data.toList else if s.kind = 6 then W_net.data.toList ++ 58 :: ptext s.net else []
def protoT (x : Nat) : List UInt8 := if x = 1 then W_icmp.data.toList else if x = 6 then W_tcp.data.toList else W_udp.data.toList
def portT (x : Nat × Nat) : List UInt8 := Lib.decDigits x.1 ++ (if x.2 ≠ x.1 then 45 :: Lib.decDigits x.2 else [])
def aclT (a : Ac) : List (List UInt8) :=
  [W_accept.data.toList, if a.protos = [] then W_any.data.toList else Lib.join (a.protos.map protoT) [44], W_from.data.toList] ++ a.src.map selT ++ [W_to.data.toList] ++ a.dst.map selT ++ (if a.ports = [] then [] else W_ports.data.toList :: a.ports.map portT)
def nmT (w : List UInt8) (n : Nm) : List (List UInt8) := [w, n.name.data.toList, [61]] ++ n.list.map fun s => s.data.toList
def hsT (h : Hs) : List (List UInt8) := [W_host.data.toList, h.name.data.toList, [61], ptext h.net]
def lineT (l : List (List UInt8)) : List UInt8 := Lib.join l [32] ++ [10]
def linesT (p : Po) : List (List (List UInt8)) := p.groups.map (nmT (W_group.data.toList)) ++ p.tags.map (nmT (W_tag.data.toList)) ++ p.hosts.map hsT ++ p.acls.map aclT
def textP (p : Po) : List UInt8 := ((linesT p).map lineT).flatten
/- Which policies may be. -/
def distinct : List ByteArray → Bool
  | [] => true
  | s :: r => !(r.any fun t => decide (t = s)) && distinct r
def mayNm (l : List Nm) : Bool := (l.all fun n => labelB n.name && decide (1 ≤ n.list.length) && decide (n.list.length ≤ 64) && n.list.all labelB) && decide (l.length ≤ 64) && distinct (l.map (·.name))
def maySels (p : Po) (l : List Sel) : Bool := (l.all fun s => decide (selP (ofL (selT s)) = some s) && knownP p s) && decide (1 ≤ l.length) && decide (l.length ≤ 64)
def rising : Nat → List Nat → Bool
  | _, [] => true
  | last, x :: r => decide (last < x) && rising x r
def mayAc (p : Po) (a : Ac) : Bool := (a.ports.all fun x => decide (x.1 ≤ x.2)) && (a.protos.all fun x => decide (x = 1) || decide (x = 6) || decide (x = 17)) && rising 0 a.protos && decide (a.ports.length ≤ 64) && maySels p a.src && maySels p a.dst
def mayP (p : Po) : Bool := mayNm p.groups && mayNm p.tags && decide (p.hosts.length ≤ 64) && decide (p.acls.length ≤ 64) && (p.hosts.all fun h => labelB h.name && pmay h.net) && (p.acls.all (mayAc p)) && distinct (p.hosts.map (·.name))
end Go.Proofs.YthglckoikjfjkaaGreatDoor

/- Words and lines: the plain law. -/
namespace Go.Proofs.YthglckoikjfjkaaGreatDoor
open Go.RowKit

theorem join_cons2 (x y : List UInt8) (r : List (List UInt8)) (c : List UInt8) : Lib.join (x :: y :: r) c = x ++ c ++ Lib.join (y :: r) c := by rw [join_two, List.append_assoc]
theorem ofL_back (b : ByteArray) : ofL b.data.toList = b := by
  unfold ofL
  rw [Array.toArray_toList]
end Go.Proofs.YthglckoikjfjkaaGreatDoor

/- Names, ports, protocols, back from their words: the plain law. -/
namespace Go.Proofs.YthglckoikjfjkaaGreatDoor
open Go.RowKit

theorem az_labc {c : UInt8} (h : az c = true) : labc c = true := by unfold labc; rw [h]; rfl
/- A group, or a tag, that may stand. -/
structure NmOk (n : Nm) : Prop where
  name : labelB n.name = true
  ge : 1 ≤ n.list.length
  le : n.list.length ≤ 64
  all : ∀ s ∈ n.list, labelB s = true
end Go.Proofs.YthglckoikjfjkaaGreatDoor

/- Selectors and words: the plain law. -/
namespace Go.Proofs.YthglckoikjfjkaaGreatDoor
open Go.RowKit

/- A selector's word is the selector's text. -/
theorem cut_one (s : List UInt8) (c : UInt8) : (c ∉ s ∧ Lib.cut s [c] = (s, [], false)) ∨ (∃ x y, s = x ++ c :: y ∧ c ∉ x ∧ Lib.cut s [c] = (x, y, true)) := by
  by_cases h : c ∈ s
  · right
    obtain ⟨x, y, e, hx⟩ := List.eq_append_cons_of_mem h
    exact ⟨x, y, e, hx, by rw [e]; exact cut_one_hit y hx⟩
  · exact Or.inl ⟨h, cut_one_none h⟩
theorem preadL_nil' : preadL [] = none := by rfl
inductive SelIs (w : ByteArray) (s : Sel) : Prop where
  | star (h1 : w = W_star) (h2 : s = ⟨1, ByteArray.empty, Pf.zero⟩)
  | named (k nm : List UInt8) (h0 : w.data.toList = k ++ 58 :: nm) (h1 : kindN k ≠ 6) (h2 : 0 < kindN k) (h3 : labelL nm = true) (h4 : s = ⟨kindN k, ofL nm, Pf.zero⟩)
  | net (k t : List UInt8) (n : Pf) (h0 : w.data.toList = k ++ 58 :: t) (h1 : kindN k = 6) (h2 : preadL t = some n) (h3 : s = ⟨6, ByteArray.empty, n⟩)
theorem selP_is {w : ByteArray} {s : Sel} (h : selP w = some s) : SelIs w s := by
  unfold selP at h
  split at h
  · next e => injection h with h; exact .star e h.symm
  · simp only at h
    rcases cut_one w.data.toList 58 with ⟨_, e⟩ | ⟨x, y, e0, _, e⟩
    · rw [e] at h
      simp only [preadL_nil'] at h
      split at h
      · cases h
      · split at h
        · next hh => exact absurd hh.2 (by decide)
        · cases h
    · rw [e] at h
      simp only at h
      split at h
      · next h6 =>
        cases hp : preadL y with
        | none => rw [hp] at h; cases h
        | some n =>
          rw [hp] at h
          injection h with h
          exact .net x y n e0 h6 hp h.symm
      · next h6 =>
        split at h
        · next hh => injection h with h; exact .named x y e0 h6 hh.1 hh.2 h.symm
        · cases h
theorem kindN_cases {k : List UInt8} (h : 0 < kindN k) : (kindN k = 2 ∧ k = W_user.data.toList) ∨ (kindN k = 3 ∧ k = W_group.data.toList) ∨ (kindN k = 4 ∧ k = W_tag.data.toList) ∨ (kindN k = 5 ∧ k = W_host.data.toList) ∨ (kindN k = 6 ∧ k = W_net.data.toList) := by
  have inj : ∀ b : ByteArray, ofL k = b → k = b.data.toList := fun b e => by rw [← e]; rfl
  unfold kindN at h ⊢
  split
  · next e => exact Or.inl ⟨rfl, inj _ e⟩
  · split
    · next e => exact Or.inr (Or.inl ⟨rfl, inj _ e⟩)
    · split
      · next e => exact Or.inr (Or.inr (Or.inl ⟨rfl, inj _ e⟩))
      · split
        · next e => exact Or.inr (Or.inr (Or.inr (Or.inl ⟨rfl, inj _ e⟩)))
        · split
          · next e => exact Or.inr (Or.inr (Or.inr (Or.inr ⟨rfl, inj _ e⟩)))
          · next e1 e2 e3 e4 e5 => rw [if_neg e1, if_neg e2, if_neg e3, if_neg e4, if_neg e5] at h; cases h
end Go.Proofs.YthglckoikjfjkaaGreatDoor

/- A policy that is written is read as itself: the plain law. -/
namespace Go.Proofs.YthglckoikjfjkaaGreatDoor
open Go.RowKit

/- What a program's policy always keeps. -/
structure PoOk (p : Po) : Prop where
  hosts : ∀ h ∈ p.hosts, h.net.Ok
  ports : ∀ a ∈ p.acls, ∀ x ∈ a.ports, x.1 < 65536 ∧ x.2 < 65536
theorem mayNm_ok {l : List Nm} (h : mayNm l = true) : (∀ n ∈ l, NmOk n) ∧ l.length ≤ 64 ∧ distinct (l.map (·.name)) = true := by
  unfold mayNm at h
  simp only [Bool.and_eq_true, decide_eq_true_eq] at h
  obtain ⟨⟨h1, h2⟩, h3⟩ := h
  refine ⟨fun n hn => ?_, h2, h3⟩
  have := List.all_eq_true.1 h1 n hn
  simp only [Bool.and_eq_true, decide_eq_true_eq] at this
  exact ⟨this.1.1.1, this.1.1.2, this.1.2, fun s hs => List.all_eq_true.1 this.2 s hs⟩
theorem maySels_ok {p : Po} {l : List Sel} (h : maySels p l = true) : (∀ s ∈ l, selP (ofL (selT s)) = some s ∧ knownP p s = true) ∧ 1 ≤ l.length ∧ l.length ≤ 64 := by
  unfold maySels at h
  simp only [Bool.and_eq_true, decide_eq_true_eq] at h
  obtain ⟨⟨h1, h2⟩, h3⟩ := h
  refine ⟨fun s hs => ?_, h2, h3⟩
  have := List.all_eq_true.1 h1 s hs
  simpa only [Bool.and_eq_true, decide_eq_true_eq] using this
theorem mayP_ok {p : Po} (h : mayP p = true) : mayNm p.groups = true ∧ mayNm p.tags = true ∧ p.hosts.length ≤ 64 ∧ p.acls.length ≤ 64 ∧ (∀ x ∈ p.hosts, labelB x.name = true ∧ pmay x.net = true) ∧ (∀ a ∈ p.acls, mayAc p a = true) ∧ distinct (p.hosts.map (·.name)) = true := by
  unfold mayP at h
  simp only [Bool.and_eq_true, decide_eq_true_eq] at h
  obtain ⟨⟨⟨⟨⟨⟨h1, h2⟩, h3⟩, h4⟩, h5⟩, h6⟩, h7⟩ := h
  refine ⟨h1, h2, h3, h4, fun x hx => ?_, fun a ha => List.all_eq_true.1 h6 a ha, h7⟩
  have := List.all_eq_true.1 h5 x hx
  simpa only [Bool.and_eq_true] using this
end Go.Proofs.YthglckoikjfjkaaGreatDoor

/- Label: the walk. -/
namespace Go.Proofs.YthglckoikjfjkaaGreatDoor
open Go.RowKit

def labSet : ByteArray := ⟨#[97, 98, 99, 100, 101, 102, 103, 104, 105, 106, 107, 108, 109, 110, 111, 112, 113, 114, 115, 116, 117, 118, 119, 120, 121, 122, 48, 49, 50, 51, 52, 53, 54, 55, 56, 57, 46, 95, 45]⟩
theorem labc_set (c : UInt8) : labSet.data.toList.contains c = labc c := by
  have h : ∀ n : Fin 256, labSet.data.toList.contains (UInt8.ofNat n.val) = labc (UInt8.ofNat n.val) := by decide +kernel
  have := h ⟨c.toNat, c.toNat_lt⟩
  simpa using this
theorem dropWhile_nil_iff (p : UInt8 → Bool) : ∀ l : List UInt8, l.dropWhile p = [] ↔ l.all p = true := by
  intro l
  induction l with
  | nil => simp
  | cons c r ih =>
    rw [List.dropWhile_cons, List.all_cons]
    cases h : p c with
    | true => simp [ih]
    | false => simp
theorem dropWhile_all {p : UInt8 → Bool} {l : List UInt8} (h : (l.dropWhile p).all p = true) : l.all p = true := by
  induction l with
  | nil => rfl
  | cons c r ih =>
    rw [List.dropWhile_cons] at h
    cases hc : p c with
    | true =>
      rw [hc, if_pos rfl] at h
      rw [List.all_cons, hc, ih h]
      rfl
    | false => rw [hc, if_neg (by decide)] at h; exact h
theorem trimS_nil (l cs : List UInt8) : (Lib.trimS l cs).isEmpty = l.all (cs.contains ·) := by
  have e : Lib.trimS l cs = [] ↔ l.all (cs.contains ·) = true := by
    unfold Lib.trimS Lib.trimLeftS Lib.trimRightS
    rw [dropWhile_nil_iff, List.all_reverse]
    constructor
    · intro h
      have := dropWhile_all h
      rwa [List.all_reverse] at this
    · intro h
      have : (l.reverse.dropWhile fun x => cs.contains x) = [] := (dropWhile_nil_iff _ _).2 (by rw [List.all_reverse]; exact h)
      rw [this]
      rfl
  cases h : l.all (cs.contains ·) with
  | true => rw [e.2 h]; rfl
  | false =>
    cases ht : Lib.trimS l cs with
    | nil => rw [e.1 ht] at h; cases h
    | cons _ _ => rfl
theorem label_cons {s : ByteArray} (h : 0 < s.size) : labelB s = (decide (s.size ≤ 32) && az (s[0]'h) && s.data.toList.all labc) := by
  have hl : s.data.toList.length = s.size := by rw [Array.length_toList]; rfl
  unfold labelB
  have h0 : s.data.toList[0]? = some (s[0]'h) := by
    rw [List.getElem?_eq_getElem (by omega)]
    simp
    rfl
  cases hs : s.data.toList with
  | nil => rw [hs] at hl; simp at hl; omega
  | cons c r =>
    rw [hs] at h0 hl
    injection h0 with h0
    unfold labelL
    rw [← h0, List.all_cons, List.length_cons] at *
    simp only
    cases hc : az c with
    | false => simp
    | true =>
      rw [az_labc hc, Bool.true_and]
      congr 2
      by_cases h32 : s.size ≤ 32
      · rw [decide_eq_true h32, decide_eq_true (by omega)]
      · rw [decide_eq_false h32, decide_eq_false (by omega)]

set_option maxHeartbeats 2000000 in
set_option maxRecDepth 100000 in
theorem label_any (s : ByteArray) (hs : s.size ≤ 4000000) (w : World) : Calls Tryz.prog 93 #[.string s] w (Got (.bool (labelB s)) w) := by
  have htr : ∀ v, Calls Tryz.prog 110 #[.string s, .string labSet] v (Got (.string ⟨(Lib.trimS s.data.toList labSet.data.toList).toArray⟩) v) := fun v => Any.strings_Trim_laid Tryz.lays160 (by kernel_rfl) s labSet v (by omega) (by decide) (ascii_of_all (by decide))
  have hb0 := Below.refl w.heap.size w
  have hset := trimS_nil s.data.toList labSet.data.toList
  rw [show (fun x => labSet.data.toList.contains x) = labc from funext labc_set] at hset
  by_cases h0 : s.size = 0
  · have he : s = ByteArray.empty := ByteArray.ext (Array.eq_empty_of_size_eq_zero h0)
    subst he
    go_enter Tryz.func93, Tryz.ntmps93
    go_wp2_with fail
    go_ret
    exact ⟨rfl, hb0⟩
  · have hp : 0 < s.size := by omega
    have hemp : s.toList.isEmpty = false := by
      rw [← decide_eq_emptyBytes]
      exact decide_eq_false (fun h => h0 (by rw [h]; rfl))
    rw [label_cons hp]
    generalize hx : (s[0]'hp).toNat = x0
    have hazx : az (s[0]'hp) = decide (97 ≤ x0 ∧ x0 ≤ 122) := by unfold az; rw [hx]
    rw [hazx]
    generalize hT : (⟨(Lib.trimS s.data.toList labSet.data.toList).toArray⟩ : ByteArray) = TT at htr
    have hTe : TT.toList.isEmpty = s.data.toList.all labc := by rw [← hset, ← hT, ByteArray.toList_eq]
    generalize s.data.toList.all labc = LL at hTe ⊢
    unfold labSet at htr
    have HTR := Lib.hid htr
    clear htr hset hT h0 hazx
    by_cases h32 : s.size ≤ 32
    · have q1 : ¬ (32 : Int) < (s.size : Int) := by omega
      by_cases h97 : x0 < 97
      · have q2 : (x0 : Int) < 97 := by omega
        rw [show decide (97 ≤ x0 ∧ x0 ≤ 122) = false from decide_eq_false (by omega), Bool.and_false, Bool.false_and]
        clear h97 h32
        go_enter Tryz.func93, Tryz.ntmps93
        go_wp2_with fail
        go_ret
        exact ⟨rfl, hb0⟩
      · have q2 : ¬ (x0 : Int) < 97 := by omega
        by_cases h122 : 122 < x0
        · have q3 : (122 : Int) < (x0 : Int) := by omega
          rw [show decide (97 ≤ x0 ∧ x0 ≤ 122) = false from decide_eq_false (by omega), Bool.and_false, Bool.false_and]
          clear h97 h32 h122
          go_enter Tryz.func93, Tryz.ntmps93
          go_wp2_with fail
          go_ret
          exact ⟨rfl, hb0⟩
        · have q3 : ¬ (122 : Int) < (x0 : Int) := by omega
          rw [show decide (97 ≤ x0 ∧ x0 ≤ 122) = true from decide_eq_true (by omega), decide_eq_true h32, Bool.true_and, Bool.true_and]
          clear h97 h32 h122
          go_enter Tryz.func93, Tryz.ntmps93
          go_wp2_with (go_at_call 110; (with_reducible refine (HTR.out _).mono ?_); rintro r w2 ⟨rfl, d2⟩)
          go_ret
          exact ⟨rfl, d2⟩
    · have q1 : (32 : Int) < (s.size : Int) := by omega
      rw [decide_eq_false h32, Bool.false_and, Bool.false_and]
      clear h32
      go_enter Tryz.func93, Tryz.ntmps93
      go_wp2_with fail
      go_ret
      exact ⟨rfl, hb0⟩
end Go.Proofs.YthglckoikjfjkaaGreatDoor

/- Numbers read off texts: the plain law against the library's own. -/
namespace Go.Proofs.YthglckoikjfjkaaGreatDoor

/- What a parser answers: a number and no error, or an error. -/
def PuRes (base B : Nat) (l : List UInt8) (r : Ending) : Prop := (∃ n : Nat, num1 base B l = some n ∧ r = .returned (.tuple #[.int .u64 (n : Int), .nilIface])) ∨ (num1 base B l = none ∧ ∃ (n : Nat) (tp : TypeId) (p : Value), n < 18446744073709551616 ∧ r = .returned (.tuple #[.int .u64 (n : Int), .iface tp p]))

theorem dval10 (c : UInt8) : dval 10 c = if 48 ≤ c.toNat ∧ c.toNat ≤ 57 then some (c.toNat - 48) else none := by
  unfold dval
  split
  · rw [if_pos (by omega)]
  · split
    · rw [if_neg (by omega)]
    · split
      · rw [if_neg (by omega)]
      · rfl
theorem pval_none_lt {dv : UInt8 → Option Nat} {base B acc : Nat} {l : List UInt8} (hb : 1 ≤ base) (h : B ≤ acc) : (pval dv base acc l).bind (fun n => if n < B then some n else none) = none := by
  cases e : pval dv base acc l with
  | none => rfl
  | some n =>
    have := pval_ge dv base hb l acc n e
    simp only [Option.bind_some]
    rw [if_neg (by omega)]
/- The library's reading at a bound M = B - 1. -/
theorem pval_M {M : Nat} (hM : M < 18446744073709551616) : ∀ (l : List UInt8) (acc : Nat), acc ≤ M → (match Lib.parseUintM M acc l with
    | .ok u => (pval (dval 10) 10 acc l).bind (fun n => if n < M + 1 then some n else none) = some u
    | _ => (pval (dval 10) 10 acc l).bind (fun n => if n < M + 1 then some n else none) = none) := by
  intro l
  induction l with
  | nil => intro acc h; simp only [Lib.parseUintM, pval, Option.bind_some]; rw [if_pos (by omega)]
  | cons c r ih =>
    intro acc h
    unfold Lib.parseUintM pval
    rw [dval10]
    by_cases hd : 48 ≤ c.toNat ∧ c.toNat ≤ 57
    · rw [if_pos hd, if_pos hd]
      simp only
      by_cases hc : 1844674407370955162 ≤ acc
      · rw [if_pos hc]
        exact pval_none_lt (by decide) (by omega)
      · rw [if_neg hc]
        by_cases hm : M < acc * 10 + (c.toNat - 48)
        · rw [if_pos hm]
          exact pval_none_lt (by decide) (by omega)
        · rw [if_neg hm]
          exact ih _ (by omega)
    · rw [if_neg hd, if_neg hd]
      rfl
theorem num1_B {B : Nat} (hB : B ≤ 64) (l : List UInt8) : (match Lib.parseUintB B l with
    | .ok u => num1 10 (2 ^ B) l = some u
    | _ => num1 10 (2 ^ B) l = none) := by
  have hp : 0 < 2 ^ B := Nat.pow_pos (by decide)
  have hl : 2 ^ B ≤ 2 ^ 64 := Nat.pow_le_pow_right (by decide) hB
  unfold Lib.parseUintB num1
  by_cases h : l = []
  · rw [if_pos h, if_pos h]
  · rw [if_neg h, if_neg h]
    have := pval_M (M := 2 ^ B - 1) (by omega) l 0 (by omega)
    rw [show 2 ^ B - 1 + 1 = 2 ^ B by omega] at this
    exact this
end Go.Proofs.YthglckoikjfjkaaGreatDoor

/- The library's variables that the walks read: kept by whatever leaves old blocks alone. -/
namespace Go.Proofs.YthglckoikjfjkaaGreatDoor
open Go.RowKit

structure Env (w : World) : Prop where
  mx : ∃ m : Int, w.cell? ⟨1, 0, none⟩ = some (.int .i64 m)
  pow : Lib.TabIs Tryz.prog w "internal/strconv.uint64pow10" .u64 Lib.pow10Tab
  db : w.cell? ⟨3, 15, none⟩ = some (.int .u8 4)
  es : ∃ (tp : TypeId) (p : Value), w.cell? ⟨6, 0, none⟩ = some (.iface tp p)
  er : ∃ (tp : TypeId) (p : Value), w.cell? ⟨7, 0, none⟩ = some (.iface tp p)
theorem Env.below {w w' : World} (h : Env w) (hb : Below w.heap.size w w') : Env w' := by
  have c : ∀ {i o : Nat} {v : Value}, w.cell? ⟨i, o, none⟩ = some v → w'.cell? ⟨i, o, none⟩ = some v := fun {i o v} hv => (hb.cell (p := ⟨i, o, none⟩) (World.block_lt_of_cell? w _ hv)).trans hv
  obtain ⟨m, hm⟩ := h.mx
  obtain ⟨t1, p1, h1⟩ := h.es
  obtain ⟨t2, p2, h2⟩ := h.er
  exact ⟨⟨m, c hm⟩, Lib.tabBelow_of_tabIs h.pow w' hb, c h.db, ⟨t1, p1, c h1⟩, ⟨t2, p2, c h2⟩⟩
end Go.Proofs.YthglckoikjfjkaaGreatDoor

/- strconv.ParseUint of base 16 and 64 bits: the walk; of base 10 off the shelf. -/
namespace Go.Proofs.YthglckoikjfjkaaGreatDoor
open Go.RowKit

def low32 (c : Nat) : Nat := c ||| 32
theorem low32_lt (c : Nat) (h : c < 256) : low32 c < 256 := Nat.or_lt_two_pow (n := 8) h (by decide)
theorem low32_dval : ∀ c : Fin 256, ¬ (48 ≤ c.1 ∧ c.1 ≤ 57) → dval 16 (UInt8.ofNat c.1) = if 97 ≤ low32 c.1 ∧ low32 c.1 ≤ 102 then some (low32 c.1 - 97 + 10) else none := by decide +kernel
theorem dval_letter (c : UInt8) (h : ¬ (48 ≤ c.toNat ∧ c.toNat ≤ 57)) : dval 16 c = if 97 ≤ low32 c.toNat ∧ low32 c.toNat ≤ 102 then some (low32 c.toNat - 97 + 10) else none := by
  have := low32_dval ⟨c.toNat, c.toNat_lt⟩ h
  rwa [UInt8.ofNat_toNat] at this
theorem dval_digit (c : UInt8) (h : 48 ≤ c.toNat ∧ c.toNat ≤ 57) : dval 16 c = some (c.toNat - 48) := by
  unfold dval
  rw [if_pos h, if_pos (by omega)]
theorem lower_any (c : Nat) (hc : c < 256) (w : World) : Calls Tryz.prog 195 #[.int .u8 (c : Int)] w fun e w' => e = .returned (.int .u8 (low32 c : Int)) ∧ w = w' := by
  have e1 : bits .or .u8 (c : Int) 32 = (low32 c : Int) := u8_or_nat c 32 hc (by decide)
  go_enter Tryz.func195, Tryz.ntmps195
  go_wp2_with fail
  go_ret
  exact ⟨rfl, rfl⟩

/- What the inner one answers: a number, or which error. -/
def PuIn (l : List UInt8) (r : Ending) : Prop := (∃ n : Nat, num1 16 18446744073709551616 l = some n ∧ r = .returned (.tuple #[.int .u64 (n : Int), .nilIface])) ∨ (num1 16 18446744073709551616 l = none ∧ ((r = .returned (.tuple #[.int .u64 0, .iface 260 (.int .i64 2)])) ∨ (r = .returned (.tuple #[.int .u64 18446744073709551615, .iface 260 (.int .i64 1)]))))
theorem PuIn.bad {l : List UInt8} (h : num1 16 18446744073709551616 l = none) : PuIn l (.returned (.tuple #[.int .u64 0, .iface 260 (.int .i64 2)])) := Or.inr ⟨h, Or.inl rfl⟩
theorem PuIn.big {l : List UInt8} (h : num1 16 18446744073709551616 l = none) : PuIn l (.returned (.tuple #[.int .u64 18446744073709551615, .iface 260 (.int .i64 1)])) := Or.inr ⟨h, Or.inr rfl⟩
def num16 (acc : Nat) (l : List UInt8) : Option Nat := (pval (dval 16) 16 acc l).bind fun n => if n < 18446744073709551616 then some n else none
theorem num16_big {acc : Nat} {l : List UInt8} (h : 18446744073709551616 ≤ acc) : num16 acc l = none := pval_none_lt (by decide) h
theorem num16_cons (acc : Nat) (c : UInt8) (r : List UInt8) : num16 acc (c :: r) = match dval 16 c with
    | none => none
    | some d => num16 (acc * 16 + d) r := by
  unfold num16
  conv => lhs; arg 1; unfold pval
  cases dval 16 c <;> rfl

set_option maxHeartbeats 8000000 in
set_option maxRecDepth 100000 in
theorem pu16_in (t : ByteArray) (hmax : t.size ≤ 9223372036854775806) (w : World) : Calls Tryz.prog 189 #[.string t, .int .i64 16, .int .i64 64] w fun e w' => PuIn t.data.toList e ∧ Below w.heap.size w w' := by
  by_cases hne : t.size = 0
  · have he : t = ⟨#[]⟩ := by
      apply ByteArray.ext
      exact Array.eq_empty_of_size_eq_zero hne
    rw [he]
    have hb := Below.refl w.heap.size w
    go_enter Tryz.func189, Tryz.ntmps189
    go_wp2_with fail
    go_ret2
    exact ⟨PuIn.bad rfl, hb⟩
  have hemp : t.toList.isEmpty = false := by
    rw [← decide_eq_emptyBytes]
    exact decide_eq_false (fun h => hne (by rw [h]; rfl))
  have hcv := Lib.run_convert_string_bytes (P := Tryz.prog) w 9 57 5 t Tryz.underlying9 Tryz.underlying57 Tryz.underlying5
  have hB : ∀ j, j < t.size → (Lib.bytesWorld w 5 t).cell? ⟨w.heap.size, j, none⟩ = some (.int .u8 (t.data.toList.getD j 0).toNat) := fun j hj => Lib.bytesWorld_cell w 5 t j hj
  have hbl := Lib.bytesWorld_below w 5 t
  obtain ⟨W1, hW1⟩ : ∃ W1, W1 = Lib.bytesWorld w 5 t := ⟨_, rfl⟩
  rw [← hW1] at hcv hB hbl
  clear hW1
  have Hbl := Lib.hid hbl
  clear hbl
  obtain ⟨bs, hL⟩ : ∃ bs, bs = t.data.toList := ⟨_, rfl⟩
  have hLn : bs.length = t.size := by rw [hL, Lib.size_eq]
  rw [← hL] at hB ⊢
  have hbs : bs ≠ [] := fun e => hne (by rw [← hLn, e]; rfl)
  clear hL
  have hnum : num1 16 18446744073709551616 bs = num16 0 bs := by
    unfold num1 num16
    rw [if_neg hbs]
  have Hnum := Lib.hid hnum
  have HBc := Lib.hid hB
  have HLn := Lib.hid hLn
  clear hnum hB hLn hbs hne
  have hmv : IntKind.u64.wrap (IntKind.u64.wrap 18446744073709551616 - 1) = 18446744073709551615 := by
    rw [IntKind.wrap_u64, IntKind.wrap_u64]
    decide
  go_enter Tryz.func189, Tryz.ntmps189
  go_wp2_with fail
  go_loop [12, 13, 101] (fun vu vn vi => ∃ (k acc : Nat) (a : Int), vu = .bool false ∧ vn = .int .u64 a ∧ vi = .int .i64 k ∧ k ≤ t.size ∧ Hid (a = (acc : Int) ∧ acc < 18446744073709551616 ∧ num16 0 bs = num16 acc (bs.drop k)))
    (fun _ _ vi => t.size - (intOf vi).toNat)
  case atStart => exact ⟨0, 0, 0, rfl, rfl, rfl, by omega, rfl, by omega, rfl⟩
  case round =>
    obtain ⟨k, acc, a, rfl, rfl, rfl, hk, hh⟩ := hrel
    obtain ⟨ha, hacc, hdec⟩ := hh.out
    clear hh
    have a0 : 0 ≤ a := by omega
    have a1 : a < 18446744073709551616 := by omega
    by_cases hkn : k < t.size
    · have hkl : k < bs.length := by have := HLn.out; omega
      have hc := HBc.out k hkn
      have hdrop : bs.drop k = bs[k]'hkl :: bs.drop (k + 1) := List.drop_eq_getElem_cons hkl
      have hget : bs.getD k 0 = bs[k]'hkl := by simp [List.getD, List.getElem?_eq_getElem hkl]
      rw [hdrop, num16_cons] at hdec
      rw [hget] at hc
      generalize bs[k]'hkl = c at hc hdec
      have hc256 : c.toNat < 256 := c.toNat_lt
      have hdd := dval_digit c
      have hdl := dval_letter c
      have hlw := Lib.hid (lower_any c.toNat hc256 W1)
      have hm256 := low32_lt c.toNat hc256
      have h95 : c.toNat = 95 → low32 c.toNat = 127 := fun h => by rw [h]; rfl
      generalize low32 c.toNat = m at hdl hlw hm256 h95
      generalize dval 16 c = D at hdec hdd hdl
      generalize c.toNat = x at hc hc256 hdd hdl hlw h95
      clear hdrop hget
      by_cases hdig : 48 ≤ x ∧ x ≤ 57
      · obtain ⟨hd0, hd1⟩ := hdig
        rw [hdd ⟨hd0, hd1⟩] at hdec
        simp only at hdec
        clear hdd hdl
        by_cases hcut : 1152921504606846976 ≤ acc
        · have hF : num16 0 bs = none := by rw [hdec]; exact num16_big (by omega)
          have icut : 1152921504606846976 ≤ a := by omega
          have HF := Lib.hid hF
          clear hcut hacc hF ha hdec
          go_wp2_with fail
          go_ret2
          exact ⟨PuIn.big (Hnum.out.trans HF.out), Hbl.out⟩
        · have HN : Hid (a * 16 + ((x : Int) - 48) = ((acc * 16 + (x - 48) : Nat) : Int) ∧ acc * 16 + (x - 48) < 18446744073709551616 ∧ num16 0 bs = num16 (acc * 16 + (x - 48)) (bs.drop (k + 1))) := Lib.hid ⟨by omega, by omega, hdec⟩
          have icut : a < 1152921504606846976 := by omega
          have iov : a * 16 + ((x : Int) - 48) < 18446744073709551616 := by omega
          clear hcut hacc hdec ha
          go_wp2_with fail
          refine ⟨⟨k + 1, acc * 16 + (x - 48), a * 16 + ((x : Int) - 48), rfl, (by first | rfl | (congr 1; omega)), (by first | rfl | (congr 1; omega)), by omega, HN⟩, by simp [intOf]; omega⟩
      · rw [hdl hdig] at hdec
        clear hdd hdl
        by_cases hx95 : x = 95
        · have hm127 := h95 hx95
          subst hx95
          subst hm127
          rw [if_neg (by omega)] at hdec
          simp only at hdec
          have HF := Lib.hid hdec
          have hl2 : Calls Tryz.prog 195 #[.int .u8 95] W1 fun e w' => e = .returned (.int .u8 127) ∧ W1 = w' := hlw.out
          have Hl2 := Lib.hid hl2
          have hc2 : W1.cell? ⟨w.heap.size, k, none⟩ = some (.int .u8 95) := hc
          clear hc hdec hacc ha hdig hm256 hc256 h95 hlw hl2
          go_wp2_with (go_at_call 195; (with_reducible refine Hl2.out.mono ?_); rintro e w' ⟨rfl, rfl⟩)
          all_goals (go_ret2; exact ⟨PuIn.bad (Hnum.out.trans HF.out), Hbl.out⟩)
        · have hq95 : ((x : Int) == 95) = false := by simp; omega
          clear h95 hx95
          by_cases hlet : 97 ≤ m ∧ m ≤ 102
          · rw [if_pos hlet] at hdec
            simp only at hdec
            obtain ⟨hm0, hm1⟩ := hlet
            have hm2 : m ≤ 122 := by omega
            by_cases hcut : 1152921504606846976 ≤ acc
            · have hF : num16 0 bs = none := by rw [hdec]; exact num16_big (by omega)
              have icut : 1152921504606846976 ≤ a := by omega
              have HF := Lib.hid hF
              clear hcut hacc hF ha hdec
              go_wp2_with (go_at_call 195; (with_reducible refine (hlw.out).mono ?_); rintro e w' ⟨rfl, rfl⟩)
              all_goals (go_ret2; exact ⟨PuIn.big (Hnum.out.trans HF.out), Hbl.out⟩)
            · have HN : Hid (a * 16 + ((m : Int) - 97 + 10) = ((acc * 16 + (m - 97 + 10) : Nat) : Int) ∧ acc * 16 + (m - 97 + 10) < 18446744073709551616 ∧ num16 0 bs = num16 (acc * 16 + (m - 97 + 10)) (bs.drop (k + 1))) := Lib.hid ⟨by omega, by omega, hdec⟩
              have icut : a < 1152921504606846976 := by omega
              have iov : a * 16 + ((m : Int) - 97 + 10) < 18446744073709551616 := by omega
              clear hcut hacc hdec ha
              go_wp2_with (go_at_call 195; (with_reducible refine (hlw.out).mono ?_); rintro e w' ⟨rfl, rfl⟩)
              all_goals exact ⟨⟨k + 1, acc * 16 + (m - 97 + 10), a * 16 + ((m : Int) - 97 + 10), rfl, (by first | rfl | (congr 1; omega)), (by first | rfl | (congr 1; omega)), by omega, HN⟩, by simp [intOf]; omega⟩
          · rw [if_neg hlet] at hdec
            simp only at hdec
            have HF := Lib.hid hdec
            clear hdec hacc ha
            by_cases hm0 : 97 ≤ m
            · by_cases hm1 : m ≤ 122
              · have hm2 : 102 < m := by omega
                clear hlet
                go_wp2_with (go_at_call 195; (with_reducible refine (hlw.out).mono ?_); rintro e w' ⟨rfl, rfl⟩)
                all_goals (go_ret2; exact ⟨PuIn.bad (Hnum.out.trans HF.out), Hbl.out⟩)
              · clear hlet
                go_wp2_with (go_at_call 195; (with_reducible refine (hlw.out).mono ?_); rintro e w' ⟨rfl, rfl⟩)
                all_goals (go_ret2; exact ⟨PuIn.bad (Hnum.out.trans HF.out), Hbl.out⟩)
            · clear hlet
              go_wp2_with (go_at_call 195; (with_reducible refine (hlw.out).mono ?_); rintro e w' ⟨rfl, rfl⟩)
              all_goals (go_ret2; exact ⟨PuIn.bad (Hnum.out.trans HF.out), Hbl.out⟩)
    · have hkk : k = t.size := by omega
      subst hkk
      have hF : num16 0 bs = some acc := by
        rw [hdec, List.drop_eq_nil_of_le (by have := HLn.out; omega)]
        unfold num16
        simp only [pval, Option.bind_some]
        rw [if_pos hacc]
      have HF := Lib.hid hF
      subst ha
      clear hdec hacc a0 a1 hF
      go_wp2_with fail
      go_ret2
      exact ⟨Or.inl ⟨acc, Hnum.out.trans HF.out, rfl⟩, Hbl.out⟩
end Go.Proofs.YthglckoikjfjkaaGreatDoor

/- strconv.ParseUint: of base 16 and 64 bits, of base 10 and 64 or 8 bits. -/
namespace Go.Proofs.YthglckoikjfjkaaGreatDoor
open Go.RowKit

def PuGot (base B : Nat) (l : List UInt8) (w : World) (r : Ending) (w' : World) : Prop := PuRes base B l r ∧ Below w.heap.size w w'
theorem toErr_syntax {w : World} (env : Env w) (fn s : ByteArray) (base bits : Int) (hs : s.size ≤ 281474976710656) : Calls Tryz.prog 190 #[.string fn, .string s, .int .i64 base, .int .i64 bits, .iface 260 (.int .i64 2)] w fun e w' => (∃ (tp : TypeId) (p : Value), e = .returned (.iface tp p)) ∧ Below w.heap.size w w' := by
  obtain ⟨tp, p, hv⟩ := env.es
  have := AnyPu.strconv_toError_syntax (P := Tryz.prog) (ρ := Tryz.laysPu14_ren) { Tryz.laysPu14 with } fn s base bits (.iface tp p) w hs hv (Or.inr ⟨tp, p, rfl⟩)
  exact this.mono fun e w' ⟨N, he, _, _, hb⟩ => ⟨⟨_, _, he⟩, hb⟩
theorem toErr_range {w : World} (env : Env w) (fn s : ByteArray) (base bits : Int) (hs : s.size ≤ 281474976710656) : Calls Tryz.prog 190 #[.string fn, .string s, .int .i64 base, .int .i64 bits, .iface 260 (.int .i64 1)] w fun e w' => (∃ (tp : TypeId) (p : Value), e = .returned (.iface tp p)) ∧ Below w.heap.size w w' := by
  obtain ⟨tp, p, hv⟩ := env.er
  have := AnyPu.strconv_toError_range (P := Tryz.prog) (ρ := Tryz.laysPu14_ren) { Tryz.laysPu14 with } fn s base bits (.iface tp p) w hs hv (Or.inr ⟨tp, p, rfl⟩)
  exact this.mono fun e w' ⟨N, he, _, _, hb⟩ => ⟨⟨_, _, he⟩, hb⟩

set_option maxHeartbeats 1000000 in
theorem pu16 {w : World} (env : Env w) (t : ByteArray) (hs : t.size ≤ 4000000) : Calls Tryz.prog 177 #[.string t, .int .i64 16, .int .i64 64] w (PuGot 16 18446744073709551616 t.data.toList w) := by
  have H := Lib.hid (pu16_in t (by omega) w)
  have Henv := Lib.hid env
  clear env
  obtain ⟨bs, hL⟩ : ∃ bs, bs = t.data.toList := ⟨_, rfl⟩
  rw [← hL] at H ⊢
  clear hL
  go_enter Tryz.func177, Tryz.ntmps177
  go_wp2_with fail
  go_at_call 189
  refine H.out.mono ?_
  rintro e w1 ⟨⟨n, hn, rfl⟩ | ⟨hn, rfl | rfl⟩, hb⟩
  · have Hn := Lib.hid hn
    have Hb := Lib.hid hb
    clear hn hb
    go_wp2_with fail
    go_ret2
    exact ⟨Or.inl ⟨n, Hn.out, rfl⟩, Hb.out⟩
  · have Hn := Lib.hid hn
    have Hb := Lib.hid hb
    clear hn hb
    have HT := Lib.hid (toErr_syntax (Henv.out.below Hb.out) ⟨#[80, 97, 114, 115, 101, 85, 105, 110, 116]⟩ t 16 64 (by omega))
    go_wp2_with (go_at_call 190; (with_reducible refine HT.out.mono ?_); rintro e w2 ⟨⟨tp, p, rfl⟩, hb2⟩; have Hb2 := Lib.hid (after Hb.out hb2); clear hb2)
    go_ret2
    exact ⟨Or.inr ⟨Hn.out, 0, tp, p, by decide, rfl⟩, Hb2.out⟩
  · have Hn := Lib.hid hn
    have Hb := Lib.hid hb
    clear hn hb
    have HT := Lib.hid (toErr_range (Henv.out.below Hb.out) ⟨#[80, 97, 114, 115, 101, 85, 105, 110, 116]⟩ t 16 64 (by omega))
    go_wp2_with (go_at_call 190; (with_reducible refine HT.out.mono ?_); rintro e w2 ⟨⟨tp, p, rfl⟩, hb2⟩; have Hb2 := Lib.hid (after Hb.out hb2); clear hb2)
    go_ret2
    exact ⟨Or.inr ⟨Hn.out, 18446744073709551615, tp, p, by decide, rfl⟩, Hb2.out⟩

theorem pu10_64 {w : World} (env : Env w) (t : ByteArray) (hs : t.size ≤ 4000000) : Calls Tryz.prog 177 #[.string t, .int .i64 10, .int .i64 64] w (PuGot 10 18446744073709551616 t.data.toList w) := by
  have hn := num1_B (B := 64) (by decide) t.data.toList
  rcases h : Lib.parseUintB 64 t.data.toList with u | _ | _
  · rw [h] at hn
    refine (Tryz.strconv_ParseUint_10_at64_ok t (by omega) u h w).mono ?_
    rintro e w' ⟨rfl, hw⟩
    refine ⟨Or.inl ⟨u, hn, rfl⟩, ?_⟩
    rcases hw with rfl | rfl
    · exact Below.refl _ _
    · exact Lib.bytesWorld_below _ _ _
  · rw [h] at hn
    obtain ⟨tp, p, hv⟩ := env.es
    refine (Any.strconv_ParseUint_10_at64_syntax Tryz.laysPu14 t (by omega) h (.iface tp p) w hv (Or.inr ⟨tp, p, rfl⟩)).mono ?_
    rintro e w' ⟨N, rfl, _, _, hb⟩
    exact ⟨Or.inr ⟨hn, 0, _, _, by decide, rfl⟩, hb⟩
  · rw [h] at hn
    obtain ⟨tp, p, hv⟩ := env.er
    refine (Tryz.strconv_ParseUint_10_at64_range t (by omega) h (.iface tp p) w hv (Or.inr ⟨tp, p, rfl⟩)).mono ?_
    rintro e w' ⟨N, rfl, _, _, hb⟩
    exact ⟨Or.inr ⟨hn, 18446744073709551615, _, _, by decide, rfl⟩, hb⟩
theorem pu10_8 {w : World} (env : Env w) (t : ByteArray) (hs : t.size ≤ 4000000) : Calls Tryz.prog 177 #[.string t, .int .i64 10, .int .i64 8] w (PuGot 10 256 t.data.toList w) := by
  have hn := num1_B (B := 8) (by decide) t.data.toList
  rcases h : Lib.parseUintB 8 t.data.toList with u | _ | _
  · rw [h] at hn
    refine (Tryz.strconv_ParseUint_10_at8_ok t (by omega) u h w).mono ?_
    rintro e w' ⟨rfl, hw⟩
    refine ⟨Or.inl ⟨u, hn, rfl⟩, ?_⟩
    rcases hw with rfl | rfl
    · exact Below.refl _ _
    · exact Lib.bytesWorld_below _ _ _
  · rw [h] at hn
    obtain ⟨tp, p, hv⟩ := env.es
    refine (Any.strconv_ParseUint_10_at8_syntax Tryz.laysPu14 t (by omega) h (.iface tp p) w hv (Or.inr ⟨tp, p, rfl⟩)).mono ?_
    rintro e w' ⟨N, rfl, _, _, hb⟩
    exact ⟨Or.inr ⟨hn, 0, _, _, by decide, rfl⟩, hb⟩
  · rw [h] at hn
    obtain ⟨tp, p, hv⟩ := env.er
    refine (Tryz.strconv_ParseUint_10_at8_range t (by omega) h (.iface tp p) w hv (Or.inr ⟨tp, p, rfl⟩)).mono ?_
    rintro e w' ⟨N, rfl, _, _, hb⟩
    exact ⟨Or.inr ⟨hn, 255, _, _, by decide, rfl⟩, hb⟩
end Go.Proofs.YthglckoikjfjkaaGreatDoor
