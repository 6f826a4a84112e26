/- Joined out of: PoA PoB PoC PoD PoE PoF PoG PlA PlB PuA Env. -/
import Derived.Test.YtbiglifngfgffaaGreatDoorLab
import Derived.Test.YtbiglifngfgffaaGreatDoorLaa
import Derived.Shelf.Strings.SlTrimAscii
import Derived.Shelf.Strings.FieldsFuncGrows
import Derived.Lib.MapLaws
import Derived.Lib.ParseIntB
import Derived.Test.YtbiglifngfgffaaGreatDoorProg
import Derived.Lib.LaidTab
import Derived.Lib.AppendIntMem
import Derived.Lib.ItoaNum
set_option linter.unusedVariables false
set_option linter.unusedSimpArgs false

/- A policy as data; its text read and written: the definitions. -/
namespace Go.Proofs.YtbiglifngfgffaaGreatDoor
open Go.RowKit

/- A policy as data. -/
structure Sel where
  kind : Nat
  name : ByteArray
  net : Pf
structure Nm where
  name : ByteArray
  list : List ByteArray
structure Hs where
  name : ByteArray
  net : Pf
structure Ac where
  protos : List Nat
  src : List Sel
  dst : List Sel
  ports : List (Nat × Nat)
structure Po where
  groups : List Nm
  tags : List Nm
  hosts : List Hs
  acls : List Ac
deriving instance DecidableEq for Ad
deriving instance DecidableEq for Pf
deriving instance DecidableEq for Sel
deriving instance DecidableEq for Nm
deriving instance DecidableEq for Hs
deriving instance DecidableEq for Ac
deriving instance DecidableEq for Po
def Ad.zero : Ad := ⟨false, 0, 0⟩
def Pf.zero : Pf := ⟨Ad.zero, 0⟩
def Po.zero : Po := ⟨[], [], [], []⟩
/- Names. -/
def az (c : UInt8) : Bool := decide (97 ≤ c.toNat ∧ c.toNat ≤ 122)
def labc (c : UInt8) : Bool := az c || decide (48 ≤ c.toNat ∧ c.toNat ≤ 57) || decide (c = 46) || decide (c = 95) || decide (c = 45)
def labelL (s : List UInt8) : Bool := match s with
  | [] => false
  | c :: r => decide (r.length < 32) && az c && r.all labc
def labelB (s : ByteArray) : Bool := labelL s.data.toList
/- The words of a line: between blanks and tabs, up to the first one that begins with '#'. -/
def blank (c : UInt8) : Bool := decide (c = 32) || decide (c = 9)
def fieldsGo (cur : List UInt8) : List UInt8 → List (List UInt8)
  | [] => if cur = [] then [] else [cur]
  | c :: r => if blank c = true then (if cur = [] then fieldsGo [] r else cur :: fieldsGo [] r) else fieldsGo (cur ++ [c]) r
def fieldsB (s : List UInt8) : List (List UInt8) := fieldsGo [] s
def plainWord (w : List UInt8) : Bool := match w with
  | [] => true
  | c :: _ => decide (c ≠ 35)
def ofL (l : List UInt8) : ByteArray := ⟨l.toArray⟩
def wordsL (s : List UInt8) : List ByteArray := ((fieldsB s).takeWhile plainWord).map ofL
/- The words that a policy is written with. -/
def W_group : ByteArray := ⟨#[103, 114, 111, 117, 112]⟩
def W_tag : ByteArray := ⟨#[116, 97, 103]⟩
def W_host : ByteArray := ⟨#[104, 111, 115, 116]⟩
def W_accept : ByteArray := ⟨#[97, 99, 99, 101, 112, 116]⟩
def W_eq : ByteArray := ⟨#[61]⟩
def W_any : ByteArray := ⟨#[97, 110, 121]⟩
def W_from : ByteArray := ⟨#[102, 114, 111, 109]⟩
def W_to : ByteArray := ⟨#[116, 111]⟩
def W_ports : ByteArray := ⟨#[112, 111, 114, 116, 115]⟩
def W_star : ByteArray := ⟨#[42]⟩
def W_user : ByteArray := ⟨#[117, 115, 101, 114]⟩
def W_net : ByteArray := ⟨#[110, 101, 116]⟩
def W_icmp : ByteArray := ⟨#[105, 99, 109, 112]⟩
def W_tcp : ByteArray := ⟨#[116, 99, 112]⟩
def W_udp : ByteArray := ⟨#[117, 100, 112]⟩
/- What is told. -/
def hasN (l : List Nm) (s : ByteArray) : Bool := l.any fun n => decide (n.name = s)
def hasH (l : List Hs) (s : ByteArray) : Bool := l.any fun n => decide (n.name = s)
def knownP (p : Po) (s : Sel) : Bool := if s.kind = 3 then hasN p.groups s.name else if s.kind = 4 then hasN p.tags s.name else if s.kind = 5 then hasH p.hosts s.name else true
abbrev Bad := Nat × Nat
def namesGo : List ByteArray → Nat → Nat → Except Bad (List ByteArray)
  | [], _, _ => .ok []
  | s :: r, i, c => if labelB s = false then .error (191, i) else if 64 ≤ c then .error (198, i) else (namesGo r (i + 1) (c + 1)).map (s :: ·)
def namedP (ws : List ByteArray) (told : List Nm) : Except Bad Nm :=
  if 64 ≤ told.length then .error (198, 0) else
  match ws with
  | _ :: nm :: r =>
    if labelB nm = false then .error (191, 1) else if hasN told nm = true then .error (197, 1) else
    match r with
    | e :: r' => if e ≠ W_eq then .error (190, 2) else if r' = [] then .error (190, 3) else (namesGo r' 3 0).map (⟨nm, ·⟩)
    | [] => .error (190, 2)
  | _ => .error (190, ws.length)
def hostP (ws : List ByteArray) (told : List Hs) : Except Bad Hs :=
  if 64 ≤ told.length then .error (198, 0) else
  match ws with
  | _ :: nm :: r =>
    if labelB nm = false then .error (191, 1) else if hasH told nm = true then .error (197, 1) else
    match r with
    | e :: r' => if e ≠ W_eq then .error (190, 2) else
      match r' with
      | [] => .error (190, 3)
      | t :: r'' => match preadL t.data.toList with
        | none => .error (192, 3)
        | some n => if r'' ≠ [] then .error (190, 4) else .ok ⟨nm, n⟩
    | [] => .error (190, 2)
  | _ => .error (190, ws.length)
def protoN (w : List UInt8) : Nat := if ofL w = W_icmp then 1 else if ofL w = W_tcp then 6 else if ofL w = W_udp then 17 else 0
def protosGo (last : Nat) : List (List UInt8) → Option (List Nat)
  | [] => some []
  | w :: r => if protoN w = 0 ∨ protoN w ≤ last then none else (protosGo (protoN w) r).map (protoN w :: ·)
def protosP (w : ByteArray) : Option (List Nat) := if w = W_any then some [] else protosGo 0 (split1 44 w.data.toList)
def kindN (w : List UInt8) : Nat := if ofL w = W_user then 2 else if ofL w = W_group then 3 else if ofL w = W_tag then 4 else if ofL w = W_host then 5 else if ofL w = W_net then 6 else 0
def selP (w : ByteArray) : Option Sel :=
  if w = W_star then some ⟨1, ByteArray.empty, Pf.zero⟩ else
  let c := Lib.cut w.data.toList [58]
  if kindN c.1 = 6 then (preadL c.2.1).map fun n => ⟨6, ByteArray.empty, n⟩
  else if 0 < kindN c.1 ∧ labelL c.2.1 = true then some ⟨kindN c.1, ofL c.2.1, Pf.zero⟩ else none
def selsGo (en : ByteArray) : List ByteArray → Nat → Nat → Except Bad (List (Sel × Nat) × List ByteArray)
  | [], i, c => if c = 0 then .error (190, i) else .ok ([], [])
  | w :: r, i, c => if w = en ∧ c ≠ 0 then .ok ([], w :: r) else match selP w with
    | none => .error (195, i)
    | some s => if 64 ≤ c then .error (198, i) else (selsGo en r (i + 1) (c + 1)).map fun x => ((s, i) :: x.1, x.2)
def portN (s : List UInt8) : Option Nat := (num1 10 65536 s).bind fun n => if Lib.decDigits n = s then some n else none
def portsP (w : ByteArray) : Option (Nat × Nat) :=
  let c := Lib.cut w.data.toList [45]
  match portN c.1, portN (if c.2.2 = true then c.2.1 else c.1) with
  | some a, some b => if a ≤ b then some (a, b) else none
  | _, _ => none
def portsGo : List ByteArray → Nat → Nat → Except Bad (List (Nat × Nat))
  | [], _, _ => .ok []
  | w :: r, i, c => match portsP w with
    | none => .error (193, i)
    | some x => if 64 ≤ c then .error (198, i) else (portsGo r (i + 1) (c + 1)).map (x :: ·)
/- An accept, and its selectors with their places. -/
def acceptP (ws : List ByteArray) (told : Nat) : Except Bad (Ac × List (Sel × Nat)) :=
  if 64 ≤ told then .error (198, 0) else
  match ws with
  | _ :: pr :: r => match protosP pr with
    | none => .error (194, 1)
    | some ps => match r with
      | [] => .error (190, 2)
      | f :: r' => if f ≠ W_from then .error (190, 2) else
        match selsGo W_to r' 3 0 with
        | .error e => .error e
        | .ok (src, r2) => match r2 with
          | [] => .error (190, ws.length)
          | _ :: r3 => match selsGo W_ports r3 (ws.length - r3.length) 0 with
            | .error e => .error e
            | .ok (dst, r4) => match r4 with
              | [] => .ok (⟨ps, src.map (·.1), dst.map (·.1), []⟩, src ++ dst)
              | _ :: r5 => if r5 = [] then .error (190, ws.length) else
                (portsGo r5 (ws.length - r5.length) 0).map fun po => (⟨ps, src.map (·.1), dst.map (·.1), po⟩, src ++ dst)
  | _ => .error (190, ws.length)
/- What stands so far, and who was named where. -/
structure Bag where
  p : Po
  used : List (Sel × Nat × Nat)
def lineP (b : Bag) (n : Nat) (ws : List ByteArray) : Except Bad Bag := match ws with
  | [] => .ok b
  | w :: _ =>
    if w = W_group then (namedP ws b.p.groups).map fun x => { b with p := { b.p with groups := b.p.groups ++ [x] } }
    else if w = W_tag then (namedP ws b.p.tags).map fun x => { b with p := { b.p with tags := b.p.tags ++ [x] } }
    else if w = W_host then (hostP ws b.p.hosts).map fun x => { b with p := { b.p with hosts := b.p.hosts ++ [x] } }
    else if w = W_accept then (acceptP ws b.p.acls.length).map fun x => { p := { b.p with acls := b.p.acls ++ [x.1] }, used := b.used ++ x.2.map fun y => (y.1, n, y.2) }
    else .error (190, 0)
abbrev Flt := Nat × Nat × Nat
def linesP : List (List UInt8) → Nat → Bag → Except Flt Bag
  | [], _, b => .ok b
  | l :: r, n, b => match lineP b n (wordsL l) with
    | .error e => .error (e.1, n, e.2)
    | .ok b' => linesP r (n + 1) b'
def parseP (s : List UInt8) : Po × Flt :=
  if 8192 < s.length then (Po.zero, (4, 0, 0)) else
  match linesP (split1 10 s) 1 ⟨Po.zero, []⟩ with
  | .error e => (Po.zero, e)
  | .ok b => match b.used.find? fun u => !knownP b.p u.1 with
    | some u => (Po.zero, (196, u.2))
    | none => (b.p, (0, 0, 0))
/- How a policy is written. -/
def selT (s : Sel) : List UInt8 :=
  if s.kind = 1 then [42] else if s.kind = 2 then W_user.data.toList ++ 58 :: s.name.data.toList else if s.kind = 3 then W_group.data.toList ++ 58 :: s.name.data.toList
  else if s.kind = 4 then W_tag.data.toList ++ 58 :: s.name.data.toList else if s.kind = 5 then W_host.data.toList ++ 58 :: s.name.data.toList else if s.kind = 6 then W_net.data.toList ++ 58 :: ptext s.net else []
def protoT (x : Nat) : List UInt8 := if x = 1 then W_icmp.data.toList else if x = 6 then W_tcp.data.toList else W_udp.data.toList
def portT (x : Nat × Nat) : List UInt8 := Lib.decDigits x.1 ++ (if x.2 ≠ x.1 then 45 :: Lib.decDigits x.2 else [])
def aclT (a : Ac) : List (List UInt8) :=
  [W_accept.data.toList, if a.protos = [] then W_any.data.toList else Lib.join (a.protos.map protoT) [44], W_from.data.toList] ++ a.src.map selT ++ [W_to.data.toList] ++ a.dst.map selT ++ (if a.ports = [] then [] else W_ports.data.toList :: a.ports.map portT)
def nmT (w : List UInt8) (n : Nm) : List (List UInt8) := [w, n.name.data.toList, [61]] ++ n.list.map fun s => s.data.toList
def hsT (h : Hs) : List (List UInt8) := [W_host.data.toList, h.name.data.toList, [61], ptext h.net]
def lineT (l : List (List UInt8)) : List UInt8 := Lib.join l [32] ++ [10]
def linesT (p : Po) : List (List (List UInt8)) := p.groups.map (nmT (W_group.data.toList)) ++ p.tags.map (nmT (W_tag.data.toList)) ++ p.hosts.map hsT ++ p.acls.map aclT
def textP (p : Po) : List UInt8 := ((linesT p).map lineT).flatten
/- Which policies may be. -/
def distinct : List ByteArray → Bool
  | [] => true
  | s :: r => !(r.any fun t => decide (t = s)) && distinct r
def mayNm (l : List Nm) : Bool := (l.all fun n => labelB n.name && decide (1 ≤ n.list.length) && decide (n.list.length ≤ 64) && n.list.all labelB) && decide (l.length ≤ 64) && distinct (l.map (·.name))
def maySels (p : Po) (l : List Sel) : Bool := (l.all fun s => decide (selP (ofL (selT s)) = some s) && knownP p s) && decide (1 ≤ l.length) && decide (l.length ≤ 64)
def rising : Nat → List Nat → Bool
  | _, [] => true
  | last, x :: r => decide (last < x) && rising x r
def mayAc (p : Po) (a : Ac) : Bool := (a.ports.all fun x => decide (x.1 ≤ x.2)) && (a.protos.all fun x => decide (x = 1) || decide (x = 6) || decide (x = 17)) && rising 0 a.protos && decide (a.ports.length ≤ 64) && maySels p a.src && maySels p a.dst
def mayP (p : Po) : Bool := mayNm p.groups && mayNm p.tags && decide (p.hosts.length ≤ 64) && decide (p.acls.length ≤ 64) && (p.hosts.all fun h => labelB h.name && pmay h.net) && (p.acls.all (mayAc p)) && distinct (p.hosts.map (·.name))
end Go.Proofs.YtbiglifngfgffaaGreatDoor

/- Words and lines: the plain law. -/
namespace Go.Proofs.YtbiglifngfgffaaGreatDoor
open Go.RowKit

theorem fieldsGo_solid : ∀ (w cur r : List UInt8), (∀ c ∈ w, blank c = false) → fieldsGo cur (w ++ r) = fieldsGo (cur ++ w) r := by
  intro w
  induction w with
  | nil => intro cur r _; simp
  | cons c w ih =>
    intro cur r h
    have hc := h c (List.mem_cons_self ..)
    rw [List.cons_append, fieldsGo, hc, if_neg (by decide), ih _ _ fun d hd => h d (List.mem_cons_of_mem _ hd)]
    simp
theorem join_cons2 (x y : List UInt8) (r : List (List UInt8)) (c : List UInt8) : Lib.join (x :: y :: r) c = x ++ c ++ Lib.join (y :: r) c := by rw [join_two, List.append_assoc]
theorem takeWhile_all {α : Type} (p : α → Bool) : ∀ (l : List α), (∀ x ∈ l, p x = true) → l.takeWhile p = l := by
  intro l
  induction l with
  | nil => intro _; rfl
  | cons x r ih => intro h; rw [List.takeWhile_cons, h x (List.mem_cons_self ..), if_pos rfl, ih fun y hy => h y (List.mem_cons_of_mem _ hy)]
theorem ofL_back (b : ByteArray) : ofL b.data.toList = b := by
  unfold ofL
  rw [Array.toArray_toList]
theorem ofL_toList (l : List UInt8) : (ofL l).data.toList = l := rfl
end Go.Proofs.YtbiglifngfgffaaGreatDoor

/- Names, ports, protocols, back from their words: the plain law. -/
namespace Go.Proofs.YtbiglifngfgffaaGreatDoor
open Go.RowKit

theorem az_labc {c : UInt8} (h : az c = true) : labc c = true := by unfold labc; rw [h]; rfl
/- A group, or a tag, that may stand. -/
structure NmOk (n : Nm) : Prop where
  name : labelB n.name = true
  ge : 1 ≤ n.list.length
  le : n.list.length ≤ 64
  all : ∀ s ∈ n.list, labelB s = true
def protoOk (x : Nat) : Bool := decide (x = 1) || decide (x = 6) || decide (x = 17)
theorem protoOk_cases {x : Nat} (h : protoOk x = true) : x = 1 ∨ x = 6 ∨ x = 17 := by
  unfold protoOk at h
  simpa [or_assoc] using h
end Go.Proofs.YtbiglifngfgffaaGreatDoor

/- Selectors and words: the plain law. -/
namespace Go.Proofs.YtbiglifngfgffaaGreatDoor
open Go.RowKit

/- A selector's word is the selector's text. -/
theorem cut_one (s : List UInt8) (c : UInt8) : (c ∉ s ∧ Lib.cut s [c] = (s, [], false)) ∨ (∃ x y, s = x ++ c :: y ∧ c ∉ x ∧ Lib.cut s [c] = (x, y, true)) := by
  by_cases h : c ∈ s
  · right
    obtain ⟨x, y, e, hx⟩ := List.eq_append_cons_of_mem h
    exact ⟨x, y, e, hx, by rw [e]; exact cut_one_hit y hx⟩
  · exact Or.inl ⟨h, cut_one_none h⟩
theorem preadL_nil' : preadL [] = none := by rfl
inductive SelIs (w : ByteArray) (s : Sel) : Prop where
  | star (h1 : w = W_star) (h2 : s = ⟨1, ByteArray.empty, Pf.zero⟩)
  | named (k nm : List UInt8) (h0 : w.data.toList = k ++ 58 :: nm) (h1 : kindN k ≠ 6) (h2 : 0 < kindN k) (h3 : labelL nm = true) (h4 : s = ⟨kindN k, ofL nm, Pf.zero⟩)
  | net (k t : List UInt8) (n : Pf) (h0 : w.data.toList = k ++ 58 :: t) (h1 : kindN k = 6) (h2 : preadL t = some n) (h3 : s = ⟨6, ByteArray.empty, n⟩)
theorem selP_is {w : ByteArray} {s : Sel} (h : selP w = some s) : SelIs w s := by
  unfold selP at h
  split at h
  · next e => injection h with h; exact .star e h.symm
  · simp only at h
    rcases cut_one w.data.toList 58 with ⟨_, e⟩ | ⟨x, y, e0, _, e⟩
    · rw [e] at h
      simp only [preadL_nil'] at h
      split at h
      · cases h
      · split at h
        · next hh => exact absurd hh.2 (by decide)
        · cases h
    · rw [e] at h
      simp only at h
      split at h
      · next h6 =>
        cases hp : preadL y with
        | none => rw [hp] at h; cases h
        | some n =>
          rw [hp] at h
          injection h with h
          exact .net x y n e0 h6 hp h.symm
      · next h6 =>
        split at h
        · next hh => injection h with h; exact .named x y e0 h6 hh.1 hh.2 h.symm
        · cases h
theorem kindN_cases {k : List UInt8} (h : 0 < kindN k) : (kindN k = 2 ∧ k = W_user.data.toList) ∨ (kindN k = 3 ∧ k = W_group.data.toList) ∨ (kindN k = 4 ∧ k = W_tag.data.toList) ∨ (kindN k = 5 ∧ k = W_host.data.toList) ∨ (kindN k = 6 ∧ k = W_net.data.toList) := by
  have inj : ∀ b : ByteArray, ofL k = b → k = b.data.toList := fun b e => by rw [← e]; rfl
  unfold kindN at h ⊢
  split
  · next e => exact Or.inl ⟨rfl, inj _ e⟩
  · split
    · next e => exact Or.inr (Or.inl ⟨rfl, inj _ e⟩)
    · split
      · next e => exact Or.inr (Or.inr (Or.inl ⟨rfl, inj _ e⟩))
      · split
        · next e => exact Or.inr (Or.inr (Or.inr (Or.inl ⟨rfl, inj _ e⟩)))
        · split
          · next e => exact Or.inr (Or.inr (Or.inr (Or.inr ⟨rfl, inj _ e⟩)))
          · next e1 e2 e3 e4 e5 => rw [if_neg e1, if_neg e2, if_neg e3, if_neg e4, if_neg e5] at h; cases h
theorem selT_of {w : ByteArray} {s : Sel} (h : selP w = some s) : ofL (selT s) = w := by
  cases selP_is h with
  | star h1 h2 => subst h1 h2; rfl
  | named k nm h0 h1 h2 h3 h4 =>
    subst h4
    have e : w = ofL (k ++ 58 :: nm) := by rw [← h0, ofL_back]
    rw [e]
    unfold selT
    rcases kindN_cases h2 with ⟨e1, e2⟩ | ⟨e1, e2⟩ | ⟨e1, e2⟩ | ⟨e1, e2⟩ | ⟨e1, e2⟩
    · simp only [e1]; rw [e2]; rfl
    · simp only [e1]; rw [e2]; rfl
    · simp only [e1]; rw [e2]; rfl
    · simp only [e1]; rw [e2]; rfl
    · exact absurd e1 h1
  | net k t n h0 h1 h2 h3 =>
    subst h3
    have e : w = ofL (k ++ 58 :: t) := by rw [← h0, ofL_back]
    rw [e]
    rcases kindN_cases (show 0 < kindN k by omega) with ⟨e1, e2⟩ | ⟨e1, e2⟩ | ⟨e1, e2⟩ | ⟨e1, e2⟩ | ⟨e1, e2⟩
    · omega
    · omega
    · omega
    · omega
    · unfold selT
      rw [e2]
      simp only
      rw [(preadL_some h2).1]
      rfl
theorem selP_again {w : ByteArray} {s : Sel} (h : selP w = some s) : selP (ofL (selT s)) = some s := by rw [selT_of h]; exact h
end Go.Proofs.YtbiglifngfgffaaGreatDoor

/- Lines, back from their policy: the plain law. -/
namespace Go.Proofs.YtbiglifngfgffaaGreatDoor
open Go.RowKit

/- An accept that may stand. -/
structure AcOk (a : Ac) : Prop where
  rise : rising 0 a.protos = true
  protos : ∀ x ∈ a.protos, protoOk x = true
  src : ∀ s ∈ a.src, selP (ofL (selT s)) = some s
  dst : ∀ s ∈ a.dst, selP (ofL (selT s)) = some s
  src1 : 1 ≤ a.src.length
  src64 : a.src.length ≤ 64
  dst1 : 1 ≤ a.dst.length
  dst64 : a.dst.length ≤ 64
  ports : ∀ x ∈ a.ports, x.1 ≤ x.2 ∧ x.2 < 65536
  ports64 : a.ports.length ≤ 64
/- The lines, one behind the other. -/
theorem distinct_mid {A B : List ByteArray} {x : ByteArray} (h : distinct (A ++ x :: B) = true) : x ∉ A := by
  induction A with
  | nil => simp
  | cons y r ih =>
    rw [List.cons_append, distinct] at h
    simp only [Bool.and_eq_true, Bool.not_eq_true', List.any_eq_false, decide_eq_true_eq] at h
    intro hm
    rcases List.mem_cons.1 hm with rfl | hm
    · exact h.1 x (by simp) rfl
    · exact ih h.2 hm
structure HsOk (x : Hs) : Prop where
  name : labelB x.name = true
  may : pmay x.net = true
  ok : x.net.Ok
end Go.Proofs.YtbiglifngfgffaaGreatDoor

/- A policy that is written is read as itself: the plain law. -/
namespace Go.Proofs.YtbiglifngfgffaaGreatDoor
open Go.RowKit

/- What a program's policy always keeps. -/
structure PoOk (p : Po) : Prop where
  hosts : ∀ h ∈ p.hosts, h.net.Ok
  ports : ∀ a ∈ p.acls, ∀ x ∈ a.ports, x.1 < 65536 ∧ x.2 < 65536
theorem mayNm_ok {l : List Nm} (h : mayNm l = true) : (∀ n ∈ l, NmOk n) ∧ l.length ≤ 64 ∧ distinct (l.map (·.name)) = true := by
  unfold mayNm at h
  simp only [Bool.and_eq_true, decide_eq_true_eq] at h
  obtain ⟨⟨h1, h2⟩, h3⟩ := h
  refine ⟨fun n hn => ?_, h2, h3⟩
  have := List.all_eq_true.1 h1 n hn
  simp only [Bool.and_eq_true, decide_eq_true_eq] at this
  exact ⟨this.1.1.1, this.1.1.2, this.1.2, fun s hs => List.all_eq_true.1 this.2 s hs⟩
theorem maySels_ok {p : Po} {l : List Sel} (h : maySels p l = true) : (∀ s ∈ l, selP (ofL (selT s)) = some s ∧ knownP p s = true) ∧ 1 ≤ l.length ∧ l.length ≤ 64 := by
  unfold maySels at h
  simp only [Bool.and_eq_true, decide_eq_true_eq] at h
  obtain ⟨⟨h1, h2⟩, h3⟩ := h
  refine ⟨fun s hs => ?_, h2, h3⟩
  have := List.all_eq_true.1 h1 s hs
  simpa only [Bool.and_eq_true, decide_eq_true_eq] using this
theorem mayP_ok {p : Po} (h : mayP p = true) : mayNm p.groups = true ∧ mayNm p.tags = true ∧ p.hosts.length ≤ 64 ∧ p.acls.length ≤ 64 ∧ (∀ x ∈ p.hosts, labelB x.name = true ∧ pmay x.net = true) ∧ (∀ a ∈ p.acls, mayAc p a = true) ∧ distinct (p.hosts.map (·.name)) = true := by
  unfold mayP at h
  simp only [Bool.and_eq_true, decide_eq_true_eq] at h
  obtain ⟨⟨⟨⟨⟨⟨h1, h2⟩, h3⟩, h4⟩, h5⟩, h6⟩, h7⟩ := h
  refine ⟨h1, h2, h3, h4, fun x hx => ?_, fun a ha => List.all_eq_true.1 h6 a ha, h7⟩
  have := List.all_eq_true.1 h5 x hx
  simpa only [Bool.and_eq_true] using this
end Go.Proofs.YtbiglifngfgffaaGreatDoor

/- A text that is read is a policy that may be: the plain law. -/
namespace Go.Proofs.YtbiglifngfgffaaGreatDoor
open Go.RowKit

theorem map_ok {α β ε : Type} {f : α → β} {x : Except ε α} {y : β} (h : x.map f = .ok y) : ∃ v, x = .ok v ∧ f v = y := by
  cases x with
  | error e => cases h
  | ok v => injection h with h; exact ⟨v, rfl, h⟩
theorem map_err {α β ε : Type} {f : α → β} {x : Except ε α} {e : ε} (h : x.map f = .error e) : x = .error e := by
  cases x with
  | error e' => injection h with h; rw [h]
  | ok v => cases h
/- What is read may be. -/
theorem namesGo_spec : ∀ (l : List ByteArray) (i c : Nat) (r : List ByteArray), namesGo l i c = .ok r → r = l ∧ (∀ s ∈ l, labelB s = true) ∧ (l ≠ [] → c + l.length ≤ 64) := by
  intro l
  induction l with
  | nil => intro i c r h; injection h with h; exact ⟨h.symm, fun s hs => (by cases hs), fun h => absurd rfl h⟩
  | cons s t ih =>
    intro i c r h
    rw [namesGo] at h
    split at h
    · cases h
    next h1 =>
    split at h
    · cases h
    next h2 =>
    cases hr : namesGo t (i + 1) (c + 1) with
    | error e => rw [hr] at h; cases h
    | ok q =>
      rw [hr] at h
      injection h with h
      obtain ⟨e1, e2, e3⟩ := ih _ _ _ hr
      subst e1
      refine ⟨h.symm, ?_, fun _ => ?_⟩
      · intro x hx
        rcases List.mem_cons.1 hx with rfl | hx
        · simpa using h1
        · exact e2 x hx
      · rw [List.length_cons]
        by_cases e : q = []
        · subst e; simp; omega
        · have := e3 e; omega
theorem namedP_spec {ws : List ByteArray} {told : List Nm} {n : Nm} (h : namedP ws told = .ok n) : NmOk n ∧ told.length < 64 ∧ hasN told n.name = false := by
  unfold namedP at h
  split at h
  · cases h
  next h0 =>
  split at h
  · next w nm r =>
    split at h
    · cases h
    next h1 =>
    split at h
    · cases h
    next h2 =>
    split at h
    · next e r' =>
      split at h
      · cases h
      next h3 =>
      split at h
      · cases h
      next h4 =>
      cases hr : namesGo r' 3 0 with
      | error e => rw [hr] at h; cases h
      | ok q =>
        rw [hr] at h
        injection h with h
        obtain ⟨e1, e2, e3⟩ := namesGo_spec _ _ _ _ hr
        subst e1 h
        have hl := e3 h4
        refine ⟨⟨by simpa using h1, ?_, by simpa using hl, e2⟩, by omega, by simpa using h2⟩
        cases q with
        | nil => exact absurd rfl h4
        | cons _ _ => simp
    · cases h
  · cases h
theorem hostP_spec {ws : List ByteArray} {told : List Hs} {x : Hs} (h : hostP ws told = .ok x) : HsOk x ∧ told.length < 64 ∧ hasH told x.name = false := by
  unfold hostP at h
  split at h
  · cases h
  next h0 =>
  split at h
  · next w nm r =>
    split at h
    · cases h
    next h1 =>
    split at h
    · cases h
    next h2 =>
    split at h
    · split at h
      · cases h
      · split at h
        · cases h
        · next t r'' =>
          split at h
          · cases h
          · next n hn =>
            split at h
            · cases h
            · injection h with h
              subst h
              obtain ⟨_, p2, p3⟩ := preadL_some hn
              exact ⟨⟨by simpa using h1, p3, p2⟩, by omega, by simpa using h2⟩
    · cases h
  · cases h
theorem protoN_ok {w : List UInt8} (h : protoN w ≠ 0) : protoOk (protoN w) = true := by
  unfold protoN at h ⊢
  split
  · rfl
  · split
    · rfl
    · split
      · rfl
      · next h1 h2 h3 => rw [if_neg h1, if_neg h2, if_neg h3] at h; exact absurd rfl h
theorem protosGo_spec : ∀ (l : List (List UInt8)) (k : Nat) (r : List Nat), protosGo k l = some r → rising k r = true ∧ ∀ x ∈ r, protoOk x = true := by
  intro l
  induction l with
  | nil => intro k r h; injection h with h; subst h; exact ⟨rfl, fun x hx => by cases hx⟩
  | cons w t ih =>
    intro k r h
    rw [protosGo] at h
    split at h
    · cases h
    next h1 =>
    cases hr : protosGo (protoN w) t with
    | none => rw [hr] at h; cases h
    | some q =>
      rw [hr] at h
      injection h with h
      subst h
      obtain ⟨e1, e2⟩ := ih _ _ hr
      refine ⟨?_, ?_⟩
      · unfold rising
        rw [e1, decide_eq_true (by omega)]
        rfl
      · intro x hx
        rcases List.mem_cons.1 hx with rfl | hx
        · exact protoN_ok (by omega)
        · exact e2 x hx
theorem protosP_spec {w : ByteArray} {r : List Nat} (h : protosP w = some r) : rising 0 r = true ∧ ∀ x ∈ r, protoOk x = true := by
  unfold protosP at h
  split at h
  · injection h with h; subst h; exact ⟨rfl, fun x hx => by cases hx⟩
  · exact protosGo_spec _ _ _ h
theorem selsGo_spec {en : ByteArray} : ∀ (l : List ByteArray) (i c : Nat) (L : List (Sel × Nat)) (t : List ByteArray), selsGo en l i c = .ok (L, t) → (∀ y ∈ L, selP (ofL (selT y.1)) = some y.1) ∧ (L ≠ [] → c + L.length ≤ 64) ∧ (c = 0 → L ≠ []) := by
  intro l
  induction l with
  | nil =>
    intro i c L t h
    rw [selsGo] at h
    split at h
    · cases h
    next h1 =>
    injection h with h
    injection h with h2 h3
    subst h2
    exact ⟨fun y hy => (by cases hy), fun h => absurd rfl h, fun h => absurd h h1⟩
  | cons w r ih =>
    intro i c L t h
    rw [selsGo] at h
    split at h
    · next h1 =>
      injection h with h
      injection h with h2 h3
      subst h2
      exact ⟨fun y hy => (by cases hy), fun h => absurd rfl h, fun h => absurd h h1.2⟩
    · split at h
      · cases h
      · next s hs =>
        split at h
        · cases h
        next h2 =>
        cases hr : selsGo en r (i + 1) (c + 1) with
        | error e => rw [hr] at h; cases h
        | ok q =>
          rw [hr] at h
          injection h with h
          injection h with h3 h4
          subst h3
          obtain ⟨e1, e2, _⟩ := ih _ _ _ _ hr
          refine ⟨?_, fun _ => ?_, fun _ => by simp⟩
          · intro y hy
            rcases List.mem_cons.1 hy with rfl | hy
            · exact selP_again hs
            · exact e1 y hy
          · rw [List.length_cons]
            by_cases e : q.1 = []
            · rw [e]; simp; omega
            · have := e2 e; omega
theorem portN_lt {s : List UInt8} {n : Nat} (h : portN s = some n) : n < 65536 := by
  unfold portN at h
  cases hn : num1 10 65536 s with
  | none => rw [hn] at h; cases h
  | some m =>
    rw [hn] at h
    simp only [Option.bind_some] at h
    split at h
    · injection h with h; subst h; exact num1_lt hn
    · cases h
theorem portsP_spec {w : ByteArray} {x : Nat × Nat} (h : portsP w = some x) : x.1 ≤ x.2 ∧ x.2 < 65536 := by
  unfold portsP at h
  simp only at h
  split at h
  · next a b ha hb =>
    split at h
    · next hle => injection h with h; subst h; exact ⟨hle, portN_lt hb⟩
    · cases h
  · cases h
theorem portsGo_spec : ∀ (l : List ByteArray) (i c : Nat) (r : List (Nat × Nat)), portsGo l i c = .ok r → (∀ x ∈ r, x.1 ≤ x.2 ∧ x.2 < 65536) ∧ (r ≠ [] → c + r.length ≤ 64) := by
  intro l
  induction l with
  | nil => intro i c r h; injection h with h; subst h; exact ⟨fun x hx => (by cases hx), fun h => absurd rfl h⟩
  | cons w t ih =>
    intro i c r h
    rw [portsGo] at h
    split at h
    · cases h
    · next x hx =>
      split at h
      · cases h
      next h2 =>
      cases hr : portsGo t (i + 1) (c + 1) with
      | error e => rw [hr] at h; cases h
      | ok q =>
        rw [hr] at h
        injection h with h
        subst h
        obtain ⟨e1, e2⟩ := ih _ _ _ hr
        refine ⟨?_, fun _ => ?_⟩
        · intro y hy
          rcases List.mem_cons.1 hy with rfl | hy
          · exact portsP_spec hx
          · exact e1 y hy
        · rw [List.length_cons]
          by_cases e : q = []
          · rw [e]; simp; omega
          · have := e2 e; omega
theorem acceptP_spec {ws : List ByteArray} {told : Nat} {a : Ac} {L : List (Sel × Nat)} (h : acceptP ws told = .ok (a, L)) : AcOk a ∧ told < 64 ∧ (∀ s, s ∈ a.src ∨ s ∈ a.dst → ∃ y ∈ L, y.1 = s) := by
  unfold acceptP at h
  split at h
  · cases h
  next h0 =>
  split at h
  · split at h
    · cases h
    next ps hps =>
    split at h
    · cases h
    · split at h
      · cases h
      · split at h
        · cases h
        next src r2 hsrc =>
        split at h
        · cases h
        · split at h
          · cases h
          next dst r4 hdst =>
          obtain ⟨p1, p2⟩ := protosP_spec hps
          obtain ⟨s1, s2, s3⟩ := selsGo_spec _ _ _ _ _ hsrc
          obtain ⟨d1, d2, d3⟩ := selsGo_spec _ _ _ _ _ hdst
          have sl := s2 (s3 rfl)
          have dl := d2 (d3 rfl)
          have sp : 1 ≤ src.length := by
            cases src with
            | nil => exact absurd rfl (s3 rfl)
            | cons _ _ => simp
          have dp : 1 ≤ dst.length := by
            cases dst with
            | nil => exact absurd rfl (d3 rfl)
            | cons _ _ => simp
          have fin : ∀ po : List (Nat × Nat), (∀ x ∈ po, x.1 ≤ x.2 ∧ x.2 < 65536) → po.length ≤ 64 → AcOk ⟨ps, src.map (·.1), dst.map (·.1), po⟩ := by
            intro po h1 h2
            refine ⟨p1, p2, ?_, ?_, by simpa using sp, by simp; omega, by simpa using dp, by simp; omega, h1, h2⟩
            · intro s hs
              obtain ⟨y, hy, rfl⟩ := List.mem_map.1 hs
              exact s1 y hy
            · intro s hs
              obtain ⟨y, hy, rfl⟩ := List.mem_map.1 hs
              exact d1 y hy
          have cov : ∀ s, s ∈ src.map (·.1) ∨ s ∈ dst.map (·.1) → ∃ y ∈ src ++ dst, y.1 = s := by
            rintro s (hs | hs)
            · obtain ⟨y, hy, rfl⟩ := List.mem_map.1 hs
              exact ⟨y, List.mem_append_left _ hy, rfl⟩
            · obtain ⟨y, hy, rfl⟩ := List.mem_map.1 hs
              exact ⟨y, List.mem_append_right _ hy, rfl⟩
          split at h
          · injection h with h
            injection h with h1 h2
            subst h1 h2
            exact ⟨fin [] (fun x hx => (by cases hx)) (by simp), by omega, cov⟩
          · next w r5 =>
            split at h
            · cases h
            · obtain ⟨po, hg, hy⟩ := map_ok h
              injection hy with h1 h2
              subst h1 h2
              obtain ⟨q1, q2⟩ := portsGo_spec _ _ _ _ hg
              refine ⟨fin po q1 ?_, by omega, cov⟩
              by_cases e : po = []
              · subst e; simp
              · have := q2 e; omega
  · cases h
structure BagOk (b : Bag) : Prop where
  groups : ∀ n ∈ b.p.groups, NmOk n
  groups64 : b.p.groups.length ≤ 64
  groupsD : distinct (b.p.groups.map (·.name)) = true
  tags : ∀ n ∈ b.p.tags, NmOk n
  tags64 : b.p.tags.length ≤ 64
  tagsD : distinct (b.p.tags.map (·.name)) = true
  hosts : ∀ x ∈ b.p.hosts, HsOk x
  hosts64 : b.p.hosts.length ≤ 64
  hostsD : distinct (b.p.hosts.map (·.name)) = true
  acls : ∀ a ∈ b.p.acls, AcOk a ∧ ∀ s, s ∈ a.src ∨ s ∈ a.dst → ∃ u ∈ b.used, u.1 = s
  acls64 : b.p.acls.length ≤ 64
theorem distinct_snoc : ∀ {A : List ByteArray} {x : ByteArray}, distinct A = true → x ∉ A → distinct (A ++ [x]) = true := by
  intro A
  induction A with
  | nil => intro x _ _; rfl
  | cons y r ih =>
    intro x h hx
    rw [List.cons_append, distinct]
    rw [distinct] at h
    simp only [Bool.and_eq_true, Bool.not_eq_true', List.any_eq_false, decide_eq_true_eq] at h ⊢
    refine ⟨fun t ht => ?_, ih h.2 fun e => hx (List.mem_cons_of_mem _ e)⟩
    rcases List.mem_append.1 ht with ht | ht
    · exact h.1 t ht
    · rw [List.mem_singleton.1 ht]
      rintro rfl
      exact hx (List.mem_cons_self ..)
theorem hasN_not {l : List Nm} {s : ByteArray} (h : hasN l s = false) : s ∉ l.map (·.name) := by
  intro e
  obtain ⟨n, hn, rfl⟩ := List.mem_map.1 e
  unfold hasN at h
  rw [List.any_eq_false] at h
  exact h n hn (by simp)
theorem hasH_not {l : List Hs} {s : ByteArray} (h : hasH l s = false) : s ∉ l.map (·.name) := by
  intro e
  obtain ⟨n, hn, rfl⟩ := List.mem_map.1 e
  unfold hasH at h
  rw [List.any_eq_false] at h
  exact h n hn (by simp)
theorem mem_snoc {α : Type} {P : α → Prop} {l : List α} {x : α} (h : ∀ y ∈ l, P y) (hx : P x) : ∀ y ∈ l ++ [x], P y := by
  intro y hy
  rcases List.mem_append.1 hy with hy | hy
  · exact h y hy
  · rw [List.mem_singleton.1 hy]; exact hx
theorem lineP_ok {b b' : Bag} {n : Nat} {ws : List ByteArray} (hb : BagOk b) (h : lineP b n ws = .ok b') : BagOk b' := by
  unfold lineP at h
  split at h
  · injection h with h; subst h; exact hb
  · split at h
    · generalize hx : namedP _ b.p.groups = r at h
      cases r with
      | error e => cases h
      | ok x =>
        injection h with h
        subst h
        obtain ⟨e1, e2, e3⟩ := namedP_spec hx
        exact { hb with groups := mem_snoc hb.groups e1, groups64 := by simp; omega, groupsD := by rw [List.map_append]; exact distinct_snoc hb.groupsD (hasN_not e3) }
    · split at h
      · generalize hx : namedP _ b.p.tags = r at h
        cases r with
        | error e => cases h
        | ok x =>
          injection h with h
          subst h
          obtain ⟨e1, e2, e3⟩ := namedP_spec hx
          exact { hb with tags := mem_snoc hb.tags e1, tags64 := by simp; omega, tagsD := by rw [List.map_append]; exact distinct_snoc hb.tagsD (hasN_not e3) }
      · split at h
        · generalize hx : hostP _ b.p.hosts = r at h
          cases r with
          | error e => cases h
          | ok x =>
            injection h with h
            subst h
            obtain ⟨e1, e2, e3⟩ := hostP_spec hx
            exact { hb with hosts := mem_snoc hb.hosts e1, hosts64 := by simp; omega, hostsD := by rw [List.map_append]; exact distinct_snoc hb.hostsD (hasH_not e3) }
        · split at h
          · generalize hx : acceptP _ b.p.acls.length = r at h
            cases r with
            | error e => cases h
            | ok x =>
              injection h with h
              subst h
              obtain ⟨a, L⟩ := x
              obtain ⟨e1, e2, e3⟩ := acceptP_spec hx
              refine { hb with acls := mem_snoc (fun a ha => ?_) ?_, acls64 := by simp; omega }
              · obtain ⟨q1, q2⟩ := hb.acls a ha
                refine ⟨q1, fun s hs => ?_⟩
                obtain ⟨u, hu, hus⟩ := q2 s hs
                exact ⟨u, List.mem_append_left _ hu, hus⟩
              · refine ⟨e1, fun s hs => ?_⟩
                obtain ⟨y, hy, hys⟩ := e3 s hs
                exact ⟨(y.1, n, y.2), List.mem_append_right _ (List.mem_map.2 ⟨y, hy, rfl⟩), hys⟩
          · cases h
theorem linesP_ok : ∀ (l : List (List UInt8)) (n : Nat) (b b' : Bag), BagOk b → linesP l n b = .ok b' → BagOk b' := by
  intro l
  induction l with
  | nil => intro n b b' hb h; injection h with h; subst h; exact hb
  | cons x r ih =>
    intro n b b' hb h
    rw [linesP] at h
    split at h
    · cases h
    · next b2 h2 => exact ih _ _ _ (lineP_ok hb h2) h
theorem bag_zero : BagOk ⟨Po.zero, []⟩ := ⟨fun x hx => (by cases hx), by decide, rfl, fun x hx => (by cases hx), by decide, rfl, fun x hx => (by cases hx), by decide, rfl, fun x hx => (by cases hx), by decide⟩
theorem err_ne {k i : Nat} {e : Bad} {α : Type} (h : (Except.error (k, i) : Except Bad α) = .error e) (hk : k ≠ 0) : e.1 ≠ 0 := by
  injection h with h
  rw [← h]
  exact hk
theorem namesGo_err : ∀ (l : List ByteArray) (i c : Nat) (e : Bad), namesGo l i c = .error e → e.1 ≠ 0 := by
  intro l
  induction l with
  | nil => intro i c e h; cases h
  | cons s t ih =>
    intro i c e h
    rw [namesGo] at h
    split at h
    · exact err_ne h (by decide)
    · split at h
      · exact err_ne h (by decide)
      · exact ih _ _ _ (map_err h)
theorem selsGo_err {en : ByteArray} : ∀ (l : List ByteArray) (i c : Nat) (e : Bad), selsGo en l i c = .error e → e.1 ≠ 0 := by
  intro l
  induction l with
  | nil =>
    intro i c e h
    rw [selsGo] at h
    split at h
    · exact err_ne h (by decide)
    · cases h
  | cons s t ih =>
    intro i c e h
    rw [selsGo] at h
    split at h
    · cases h
    · split at h
      · exact err_ne h (by decide)
      · split at h
        · exact err_ne h (by decide)
        · exact ih _ _ _ (map_err h)
theorem portsGo_err : ∀ (l : List ByteArray) (i c : Nat) (e : Bad), portsGo l i c = .error e → e.1 ≠ 0 := by
  intro l
  induction l with
  | nil => intro i c e h; cases h
  | cons s t ih =>
    intro i c e h
    rw [portsGo] at h
    split at h
    · exact err_ne h (by decide)
    · split at h
      · exact err_ne h (by decide)
      · exact ih _ _ _ (map_err h)
theorem namedP_err {ws : List ByteArray} {told : List Nm} {e : Bad} (h : namedP ws told = .error e) : e.1 ≠ 0 := by
  unfold namedP at h
  repeat' split at h
  all_goals first | exact err_ne h (by decide) | exact namesGo_err _ _ _ _ (map_err h)
theorem hostP_err {ws : List ByteArray} {told : List Hs} {e : Bad} (h : hostP ws told = .error e) : e.1 ≠ 0 := by
  unfold hostP at h
  repeat' split at h
  all_goals first | exact err_ne h (by decide) | cases h
theorem acceptP_err {ws : List ByteArray} {told : Nat} {e : Bad} (h : acceptP ws told = .error e) : e.1 ≠ 0 := by
  unfold acceptP at h
  repeat' split at h
  all_goals first
    | exact err_ne h (by decide)
    | exact portsGo_err _ _ _ _ (map_err h)
    | (cases h; exact selsGo_err _ _ _ _ (by assumption))
    | cases h
theorem lineP_err {b : Bag} {n : Nat} {ws : List ByteArray} {e : Bad} (h : lineP b n ws = .error e) : e.1 ≠ 0 := by
  unfold lineP at h
  repeat' split at h
  all_goals first
    | exact err_ne h (by decide)
    | exact namedP_err (map_err h)
    | exact hostP_err (map_err h)
    | exact acceptP_err (map_err h)
    | cases h
/- A TEXT THAT IS READ IS A POLICY THAT MAY BE. -/
theorem parse_may {s : List UInt8} {q : Po} {f : Flt} (h : parseP s = (q, f)) (hf : f.1 = 0) : f = (0, 0, 0) ∧ mayP q = true ∧ PoOk q := by
  unfold parseP at h
  split at h
  · injection h with h1 h2; subst h2; cases hf
  · split at h
    · next e he =>
      injection h with h1 h2
      subst h2
      exfalso
      have : ∀ (l : List (List UInt8)) (n : Nat) (b : Bag) (e : Flt), linesP l n b = .error e → e.1 ≠ 0 := by
        intro l
        induction l with
        | nil => intro n b e h; cases h
        | cons x r ih =>
          intro n b e h
          rw [linesP] at h
          split at h
          · next e2 h2 => injection h with h; subst h; exact lineP_err h2
          · exact ih _ _ _ h
      exact this _ _ _ _ he hf
    · next b hb =>
      have B := linesP_ok _ _ _ _ bag_zero hb
      split at h
      · injection h with h1 h2; subst h2; cases hf
      · next hn =>
        injection h with h1 h2
        subst h1 h2
        rw [List.find?_eq_none] at hn
        have kn : ∀ a ∈ b.p.acls, ∀ s, s ∈ a.src ∨ s ∈ a.dst → knownP b.p s = true := by
          intro a ha s hs
          obtain ⟨u, hu, rfl⟩ := (B.acls a ha).2 s hs
          simpa using hn u hu
        refine ⟨rfl, ?_, ⟨fun x hx => (B.hosts x hx).ok, fun a ha x hx => by have := (B.acls a ha).1.ports x hx; omega⟩⟩
        have nm : ∀ l : List Nm, (∀ n ∈ l, NmOk n) → l.length ≤ 64 → distinct (l.map (·.name)) = true → mayNm l = true := by
          intro l h1 h2 h3
          unfold mayNm
          simp only [Bool.and_eq_true, decide_eq_true_eq]
          refine ⟨⟨List.all_eq_true.2 fun n hn => ?_, h2⟩, h3⟩
          have := h1 n hn
          simp only [Bool.and_eq_true, decide_eq_true_eq]
          exact ⟨⟨⟨this.name, this.ge⟩, this.le⟩, List.all_eq_true.2 this.all⟩
        unfold mayP
        simp only [Bool.and_eq_true, decide_eq_true_eq]
        refine ⟨⟨⟨⟨⟨⟨nm _ B.groups B.groups64 B.groupsD, nm _ B.tags B.tags64 B.tagsD⟩, B.hosts64⟩, B.acls64⟩, List.all_eq_true.2 fun x hx => ?_⟩, List.all_eq_true.2 fun a ha => ?_⟩, B.hostsD⟩
        · simp only [Bool.and_eq_true]; exact ⟨(B.hosts x hx).name, (B.hosts x hx).may⟩
        · have A := (B.acls a ha).1
          have K := kn a ha
          unfold mayAc maySels
          simp only [Bool.and_eq_true, decide_eq_true_eq]
          refine ⟨⟨⟨⟨⟨List.all_eq_true.2 fun x hx => decide_eq_true (A.ports x hx).1, List.all_eq_true.2 fun x hx => A.protos x hx⟩, A.rise⟩, A.ports64⟩, ⟨⟨List.all_eq_true.2 fun s hs => ?_, A.src1⟩, A.src64⟩⟩, ⟨⟨List.all_eq_true.2 fun s hs => ?_, A.dst1⟩, A.dst64⟩⟩
          · simp only [Bool.and_eq_true, decide_eq_true_eq]; exact ⟨A.src s hs, K s (Or.inl hs)⟩
          · simp only [Bool.and_eq_true, decide_eq_true_eq]; exact ⟨A.dst s hs, K s (Or.inr hs)⟩
end Go.Proofs.YtbiglifngfgffaaGreatDoor

/- Label: the walk. -/
namespace Go.Proofs.YtbiglifngfgffaaGreatDoor
open Go.RowKit

def labSet : ByteArray := ⟨#[97, 98, 99, 100, 101, 102, 103, 104, 105, 106, 107, 108, 109, 110, 111, 112, 113, 114, 115, 116, 117, 118, 119, 120, 121, 122, 48, 49, 50, 51, 52, 53, 54, 55, 56, 57, 46, 95, 45]⟩
theorem labc_set (c : UInt8) : labSet.data.toList.contains c = labc c := by
  have h : ∀ n : Fin 256, labSet.data.toList.contains (UInt8.ofNat n.val) = labc (UInt8.ofNat n.val) := by decide +kernel
  have := h ⟨c.toNat, c.toNat_lt⟩
  simpa using this
theorem dropWhile_nil_iff (p : UInt8 → Bool) : ∀ l : List UInt8, l.dropWhile p = [] ↔ l.all p = true := by
  intro l
  induction l with
  | nil => simp
  | cons c r ih =>
    rw [List.dropWhile_cons, List.all_cons]
    cases h : p c with
    | true => simp [ih]
    | false => simp
theorem dropWhile_all {p : UInt8 → Bool} {l : List UInt8} (h : (l.dropWhile p).all p = true) : l.all p = true := by
  induction l with
  | nil => rfl
  | cons c r ih =>
    rw [List.dropWhile_cons] at h
    cases hc : p c with
    | true =>
      rw [hc, if_pos rfl] at h
      rw [List.all_cons, hc, ih h]
      rfl
    | false => rw [hc, if_neg (by decide)] at h; exact h
theorem trimS_nil (l cs : List UInt8) : (Lib.trimS l cs).isEmpty = l.all (cs.contains ·) := by
  have e : Lib.trimS l cs = [] ↔ l.all (cs.contains ·) = true := by
    unfold Lib.trimS Lib.trimLeftS Lib.trimRightS
    rw [dropWhile_nil_iff, List.all_reverse]
    constructor
    · intro h
      have := dropWhile_all h
      rwa [List.all_reverse] at this
    · intro h
      have : (l.reverse.dropWhile fun x => cs.contains x) = [] := (dropWhile_nil_iff _ _).2 (by rw [List.all_reverse]; exact h)
      rw [this]
      rfl
  cases h : l.all (cs.contains ·) with
  | true => rw [e.2 h]; rfl
  | false =>
    cases ht : Lib.trimS l cs with
    | nil => rw [e.1 ht] at h; cases h
    | cons _ _ => rfl
theorem label_cons {s : ByteArray} (h : 0 < s.size) : labelB s = (decide (s.size ≤ 32) && az (s[0]'h) && s.data.toList.all labc) := by
  have hl : s.data.toList.length = s.size := by rw [Array.length_toList]; rfl
  unfold labelB
  have h0 : s.data.toList[0]? = some (s[0]'h) := by
    rw [List.getElem?_eq_getElem (by omega)]
    simp
    rfl
  cases hs : s.data.toList with
  | nil => rw [hs] at hl; simp at hl; omega
  | cons c r =>
    rw [hs] at h0 hl
    injection h0 with h0
    unfold labelL
    rw [← h0, List.all_cons, List.length_cons] at *
    simp only
    cases hc : az c with
    | false => simp
    | true =>
      rw [az_labc hc, Bool.true_and]
      congr 2
      by_cases h32 : s.size ≤ 32
      · rw [decide_eq_true h32, decide_eq_true (by omega)]
      · rw [decide_eq_false h32, decide_eq_false (by omega)]

set_option maxHeartbeats 2000000 in
set_option maxRecDepth 100000 in
theorem label_any (s : ByteArray) (hs : s.size ≤ 4000000) (w : World) : Calls Tryz.prog 16 #[.string s] w (Got (.bool (labelB s)) w) := by
  have htr : ∀ v, Calls Tryz.prog 42 #[.string s, .string labSet] v (Got (.string ⟨(Lib.trimS s.data.toList labSet.data.toList).toArray⟩) v) := fun v => Any.strings_Trim_laid Tryz.lays160 (by kernel_rfl) s labSet v (by omega) (by decide) (ascii_of_all (by decide))
  have hb0 := Below.refl w.heap.size w
  have hset := trimS_nil s.data.toList labSet.data.toList
  rw [show (fun x => labSet.data.toList.contains x) = labc from funext labc_set] at hset
  by_cases h0 : s.size = 0
  · have he : s = ByteArray.empty := ByteArray.ext (Array.eq_empty_of_size_eq_zero h0)
    subst he
    go_enter Tryz.func16, Tryz.ntmps16
    go_wp2_with fail
    go_ret
    exact ⟨rfl, hb0⟩
  · have hp : 0 < s.size := by omega
    have hemp : s.toList.isEmpty = false := by
      rw [← decide_eq_emptyBytes]
      exact decide_eq_false (fun h => h0 (by rw [h]; rfl))
    rw [label_cons hp]
    generalize hx : (s[0]'hp).toNat = x0
    have hazx : az (s[0]'hp) = decide (97 ≤ x0 ∧ x0 ≤ 122) := by unfold az; rw [hx]
    rw [hazx]
    generalize hT : (⟨(Lib.trimS s.data.toList labSet.data.toList).toArray⟩ : ByteArray) = TT at htr
    have hTe : TT.toList.isEmpty = s.data.toList.all labc := by rw [← hset, ← hT, ByteArray.toList_eq]
    generalize s.data.toList.all labc = LL at hTe ⊢
    unfold labSet at htr
    have HTR := Lib.hid htr
    clear htr hset hT h0 hazx
    by_cases h32 : s.size ≤ 32
    · have q1 : ¬ (32 : Int) < (s.size : Int) := by omega
      by_cases h97 : x0 < 97
      · have q2 : (x0 : Int) < 97 := by omega
        rw [show decide (97 ≤ x0 ∧ x0 ≤ 122) = false from decide_eq_false (by omega), Bool.and_false, Bool.false_and]
        clear h97 h32
        go_enter Tryz.func16, Tryz.ntmps16
        go_wp2_with fail
        go_ret
        exact ⟨rfl, hb0⟩
      · have q2 : ¬ (x0 : Int) < 97 := by omega
        by_cases h122 : 122 < x0
        · have q3 : (122 : Int) < (x0 : Int) := by omega
          rw [show decide (97 ≤ x0 ∧ x0 ≤ 122) = false from decide_eq_false (by omega), Bool.and_false, Bool.false_and]
          clear h97 h32 h122
          go_enter Tryz.func16, Tryz.ntmps16
          go_wp2_with fail
          go_ret
          exact ⟨rfl, hb0⟩
        · have q3 : ¬ (122 : Int) < (x0 : Int) := by omega
          rw [show decide (97 ≤ x0 ∧ x0 ≤ 122) = true from decide_eq_true (by omega), decide_eq_true h32, Bool.true_and, Bool.true_and]
          clear h97 h32 h122
          go_enter Tryz.func16, Tryz.ntmps16
          go_wp2_with (go_at_call 42; (with_reducible refine (HTR.out _).mono ?_); rintro r w2 ⟨rfl, d2⟩)
          go_ret
          exact ⟨rfl, d2⟩
    · have q1 : (32 : Int) < (s.size : Int) := by omega
      rw [decide_eq_false h32, Bool.false_and, Bool.false_and]
      clear h32
      go_enter Tryz.func16, Tryz.ntmps16
      go_wp2_with fail
      go_ret
      exact ⟨rfl, hb0⟩
end Go.Proofs.YtbiglifngfgffaaGreatDoor

/- The library's FieldsFunc at blanks and tabs: byte by byte. -/
namespace Go.Proofs.YtbiglifngfgffaaGreatDoor
open Go.RowKit

def blankR (r : Nat) : Bool := decide (r = 32) || decide (r = 9)
theorem blankR_ge {r : Nat} (h : 128 ≤ r) : blankR r = false := by
  unfold blankR
  rw [decide_eq_false (by omega), decide_eq_false (by omega)]
  rfl
theorem blank_nat (c : UInt8) : blank c = blankR c.toNat := by
  unfold blank blankR
  have e1 : (c = 32) ↔ c.toNat = 32 := ⟨fun h => by rw [h]; rfl, fun h => UInt8.toNat_inj.1 h⟩
  have e2 : (c = 9) ↔ c.toNat = 9 := ⟨fun h => by rw [h]; rfl, fun h => UInt8.toNat_inj.1 h⟩
  simp [e1, e2]
theorem get_list (s : ByteArray) (i : Nat) : s.get! i = s.data.toList.getD i 0 := by
  show s.data[i]! = _
  rw [List.getD_eq_getElem?_getD, Array.getElem?_toList, Array.getElem!_eq_getD, Array.getD_eq_getD_getElem?]
  rfl
theorem decode_facts (s : ByteArray) (pos : Nat) (h : pos < s.size) :
    ((s.data.toList.getD pos 0).toNat < 128 → (Utf8.decode s pos) = ((s.data.toList.getD pos 0).toNat, 1)) ∧ (128 ≤ (s.data.toList.getD pos 0).toNat → 128 ≤ (Utf8.decode s pos).1) ∧ 1 ≤ (Utf8.decode s pos).2 ∧ pos + (Utf8.decode s pos).2 ≤ s.size ∧ ∀ j, 0 < j → j < (Utf8.decode s pos).2 → 128 ≤ (s.data.toList.getD (pos + j) 0).toNat := by
  rw [Lib.decode_at, get_list, get_list, get_list, get_list]
  generalize (s.data.toList.getD pos 0).toNat = b0
  generalize h1 : (s.data.toList.getD (pos + 1) 0).toNat = b1
  generalize h2 : (s.data.toList.getD (pos + 2) 0).toNat = b2
  generalize h3 : (s.data.toList.getD (pos + 3) 0).toNat = b3
  rcases Lib.decodeN_shape (s.size - pos) b0 b1 b2 b3 with ⟨a, e⟩ | ⟨a, b, c, d, e⟩ | ⟨a, b, c, d, f, g, e⟩ | ⟨a, b, c, d, f, g, k, e⟩ | e
  · rw [e]
    exact ⟨fun _ => rfl, fun _ => by simp only; omega, Nat.le_refl _, by simp only; omega, fun j h0 hj => by simp only at hj; omega⟩
  · rw [e]
    refine ⟨fun _ => by omega, fun _ => d, by simp only; omega, by simp only; omega, fun j h0 hj => ?_⟩
    simp only at hj
    obtain rfl : j = 1 := by omega
    rw [h1]
    omega
  · rw [e]
    refine ⟨fun _ => by omega, fun _ => by simp only; omega, by simp only; omega, by simp only; omega, fun j h0 hj => ?_⟩
    simp only at hj
    have : j = 1 ∨ j = 2 := by omega
    rcases this with rfl | rfl
    · rw [h1]; omega
    · rw [h2]; omega
  · rw [e]
    refine ⟨fun _ => by omega, fun _ => by simp only; omega, by simp only; omega, by simp only; omega, fun j h0 hj => ?_⟩
    simp only at hj
    have : j = 1 ∨ j = 2 ∨ j = 3 := by omega
    rcases this with rfl | rfl | rfl
    · rw [h1]; omega
    · rw [h2]; omega
    · rw [h3]; omega
  · rw [e]
    refine ⟨fun hb => ?_, fun _ => by decide, by simp only; omega, by simp only; omega, fun j h0 hj => by simp only at hj; omega⟩
    rw [← e]
    simp [Lib.decodeN, hb]
def extL (L : List UInt8) (x : Nat × Nat) : List UInt8 := (L.take x.2).drop x.1
def curL (L : List UInt8) (pos : Nat) : Option Nat → List UInt8
  | none => []
  | some a => (L.take pos).drop a
theorem spansP_none (p : Nat → Bool) (s : ByteArray) (f pos : Nat) (acc : List (Nat × Nat)) : Lib.spansFromP p s (f + 1) pos none acc = if pos < s.size then (if p (Utf8.decode s pos).1 = true then Lib.spansFromP p s f (pos + (Utf8.decode s pos).2) none acc else Lib.spansFromP p s f (pos + (Utf8.decode s pos).2) (some pos) acc) else (acc, none) := rfl
theorem spansP_some (p : Nat → Bool) (s : ByteArray) (f pos a : Nat) (acc : List (Nat × Nat)) : Lib.spansFromP p s (f + 1) pos (some a) acc = if pos < s.size then (if p (Utf8.decode s pos).1 = true then Lib.spansFromP p s f (pos + (Utf8.decode s pos).2) none (acc ++ [(a, pos)]) else Lib.spansFromP p s f (pos + (Utf8.decode s pos).2) (some a) acc) else (acc, some a) := rfl
theorem spans_fields (s : ByteArray) : ∀ (f pos : Nat) (st : Option Nat) (acc : List (Nat × Nat)), s.size ≤ pos + f → pos ≤ s.size → (∀ a, st = some a → a < pos) →
    (Lib.closeSpans s (Lib.spansFromP blankR s f pos st acc)).map (extL s.data.toList) = acc.map (extL s.data.toList) ++ fieldsGo (curL s.data.toList pos st) (s.data.toList.drop pos) := by
  have hlen : s.data.toList.length = s.size := by rw [Array.length_toList]; rfl
  have fin : ∀ (pos : Nat) (st : Option Nat) (acc : List (Nat × Nat)), pos = s.size → (∀ a, st = some a → a < pos) → (Lib.closeSpans s (acc, st)).map (extL s.data.toList) = acc.map (extL s.data.toList) ++ fieldsGo (curL s.data.toList pos st) (s.data.toList.drop pos) := by
    intro pos st acc hp hst
    rw [List.drop_of_length_le (by omega)]
    cases st with
    | none => simp [Lib.closeSpans, curL, fieldsGo]
    | some a =>
      have ha := hst a rfl
      have hne : curL s.data.toList pos (some a) ≠ [] := by
        intro e
        have := congrArg List.length e
        simp [curL] at this
        omega
      rw [fieldsGo, if_neg hne]
      simp [Lib.closeSpans, extL, curL, hp]
  intro f
  induction f with
  | zero =>
    intro pos st acc hf hp hst
    exact fin pos st acc (by omega) hst
  | succ f ih =>
    intro pos st acc hf hp hst
    by_cases hlt : pos < s.size
    · obtain ⟨f1, f2, f3, f4, f5⟩ := decode_facts s pos hlt
      have hget : ∀ i (hi : i < s.data.toList.length), s.data.toList.getD i 0 = s.data.toList[i] := fun i hi => by rw [List.getD_eq_getElem?_getD, List.getElem?_eq_getElem hi]; rfl
      by_cases hb : blankR (Utf8.decode s pos).1 = true
      · have h128 : (s.data.toList.getD pos 0).toNat < 128 := by
          rcases Nat.lt_or_ge (s.data.toList.getD pos 0).toNat 128 with h | h
          · exact h
          · rw [blankR_ge (f2 h)] at hb; cases hb
        have e := f1 h128
        have hb0 := hb
        rw [e] at hb
        simp only at hb
        have hd : s.data.toList.drop pos = s.data.toList[pos] :: s.data.toList.drop (pos + 1) := List.drop_eq_getElem_cons (by omega)
        have hbl : blank s.data.toList[pos] = true := by rw [blank_nat, ← hget pos (by omega)]; exact hb
        cases st with
        | none =>
          rw [spansP_none, if_pos hlt, if_pos hb0, e]
          simp only
          rw [ih _ _ _ (by omega) (by omega) (fun a h => by cases h), hd]
          conv => rhs; rw [curL, fieldsGo, if_pos hbl, if_pos rfl]
          rfl
        | some a =>
          have ha := hst a rfl
          have hne : curL s.data.toList pos (some a) ≠ [] := by
            intro e
            have := congrArg List.length e
            simp [curL] at this
            omega
          rw [spansP_some, if_pos hlt, if_pos hb0, e]
          simp only
          rw [ih _ _ _ (by omega) (by omega) (fun a h => by cases h), hd]
          conv => rhs; rw [fieldsGo, if_pos hbl, if_neg hne]
          rw [List.map_append, List.append_assoc]
          rfl
      · have hb0 := hb
        generalize hK : (Utf8.decode s pos).2 = K at f3 f4 f5
        have seg : ∀ c ∈ (s.data.toList.drop pos).take K, blank c = false := by
          intro c hc
          obtain ⟨j, hj, rfl⟩ := List.getElem_of_mem hc
          rw [List.length_take, List.length_drop] at hj
          rw [List.getElem_take, List.getElem_drop, blank_nat, ← hget (pos + j) (by omega)]
          by_cases h0 : j = 0
          · subst h0
            rw [Nat.add_zero]
            rcases Nat.lt_or_ge (s.data.toList.getD pos 0).toNat 128 with h | h
            · have := f1 h
              rw [this] at hb
              simpa using hb
            · exact blankR_ge h
          · exact blankR_ge (f5 j (by omega) (by omega))
        have hd : s.data.toList.drop pos = (s.data.toList.drop pos).take K ++ s.data.toList.drop (pos + K) := by
          rw [← List.drop_drop]
          exact (List.take_append_drop K _).symm
        have cur : ∀ a, a ≤ pos → (s.data.toList.take (pos + K)).drop a = (s.data.toList.take pos).drop a ++ (s.data.toList.drop pos).take K := by
          intro a ha
          rw [List.take_add, List.drop_append_of_le_length (by rw [List.length_take]; omega)]
        cases st with
        | none =>
          rw [spansP_none, if_pos hlt, if_neg hb0, hK]
          rw [ih _ _ _ (by omega) (by omega) (fun a h => by injection h with h; omega)]
          conv => rhs; rw [hd, fieldsGo_solid _ _ _ seg]
          congr 2
          rw [curL, curL, cur pos (Nat.le_refl _), List.nil_append, List.drop_of_length_le (by rw [List.length_take]; omega), List.nil_append]
        | some a =>
          have ha := hst a rfl
          rw [spansP_some, if_pos hlt, if_neg hb0, hK]
          rw [ih _ _ _ (by omega) (by omega) (fun b h => by injection h with h; omega)]
          conv => rhs; rw [hd, fieldsGo_solid _ _ _ seg]
          congr 2
          rw [curL, curL, cur a (by omega)]
    · have hx : Lib.spansFromP blankR s (f + 1) pos st acc = (acc, st) := Lib.spansFromP_end _ _ _ _ _ _ hlt
      rw [hx]
      exact fin pos st acc (by omega) hst
theorem fields_are (s : ByteArray) : Lib.goFieldsP blankR s = (fieldsB s.data.toList).map ofL := by
  have h := spans_fields s s.size 0 none [] (by omega) (by omega) (fun a h => by cases h)
  rw [List.map_nil, List.nil_append, List.drop_zero] at h
  unfold fieldsB
  rw [show curL s.data.toList 0 none = [] from rfl] at h
  rw [← h, List.map_map]
  unfold Lib.goFieldsP Lib.spansOfP
  apply List.map_congr_left
  intro x _
  show s.extract x.1 x.2 = ofL (extL s.data.toList x)
  unfold ofL extL
  apply ByteArray.ext
  rw [ByteArray.data_extract]
  apply Array.ext'
  rw [Array.toList_extract]
  simp [List.drop_take]
end Go.Proofs.YtbiglifngfgffaaGreatDoor

/- Numbers read off texts: the plain law against the library's own. -/
namespace Go.Proofs.YtbiglifngfgffaaGreatDoor

/- What a parser answers: a number and no error, or an error. -/
def PuRes (base B : Nat) (l : List UInt8) (r : Ending) : Prop := (∃ n : Nat, num1 base B l = some n ∧ r = .returned (.tuple #[.int .u64 (n : Int), .nilIface])) ∨ (num1 base B l = none ∧ ∃ (n : Nat) (tp : TypeId) (p : Value), n < 18446744073709551616 ∧ r = .returned (.tuple #[.int .u64 (n : Int), .iface tp p]))

theorem dval10 (c : UInt8) : dval 10 c = if 48 ≤ c.toNat ∧ c.toNat ≤ 57 then some (c.toNat - 48) else none := by
  unfold dval
  split
  · rw [if_pos (by omega)]
  · split
    · rw [if_neg (by omega)]
    · split
      · rw [if_neg (by omega)]
      · rfl
theorem pval_none_lt {dv : UInt8 → Option Nat} {base B acc : Nat} {l : List UInt8} (hb : 1 ≤ base) (h : B ≤ acc) : (pval dv base acc l).bind (fun n => if n < B then some n else none) = none := by
  cases e : pval dv base acc l with
  | none => rfl
  | some n =>
    have := pval_ge dv base hb l acc n e
    simp only [Option.bind_some]
    rw [if_neg (by omega)]
/- The library's reading at a bound M = B - 1. -/
theorem pval_M {M : Nat} (hM : M < 18446744073709551616) : ∀ (l : List UInt8) (acc : Nat), acc ≤ M → (match Lib.parseUintM M acc l with
    | .ok u => (pval (dval 10) 10 acc l).bind (fun n => if n < M + 1 then some n else none) = some u
    | _ => (pval (dval 10) 10 acc l).bind (fun n => if n < M + 1 then some n else none) = none) := by
  intro l
  induction l with
  | nil => intro acc h; simp only [Lib.parseUintM, pval, Option.bind_some]; rw [if_pos (by omega)]
  | cons c r ih =>
    intro acc h
    unfold Lib.parseUintM pval
    rw [dval10]
    by_cases hd : 48 ≤ c.toNat ∧ c.toNat ≤ 57
    · rw [if_pos hd, if_pos hd]
      simp only
      by_cases hc : 1844674407370955162 ≤ acc
      · rw [if_pos hc]
        exact pval_none_lt (by decide) (by omega)
      · rw [if_neg hc]
        by_cases hm : M < acc * 10 + (c.toNat - 48)
        · rw [if_pos hm]
          exact pval_none_lt (by decide) (by omega)
        · rw [if_neg hm]
          exact ih _ (by omega)
    · rw [if_neg hd, if_neg hd]
      rfl
theorem num1_B {B : Nat} (hB : B ≤ 64) (l : List UInt8) : (match Lib.parseUintB B l with
    | .ok u => num1 10 (2 ^ B) l = some u
    | _ => num1 10 (2 ^ B) l = none) := by
  have hp : 0 < 2 ^ B := Nat.pow_pos (by decide)
  have hl : 2 ^ B ≤ 2 ^ 64 := Nat.pow_le_pow_right (by decide) hB
  unfold Lib.parseUintB num1
  by_cases h : l = []
  · rw [if_pos h, if_pos h]
  · rw [if_neg h, if_neg h]
    have := pval_M (M := 2 ^ B - 1) (by omega) l 0 (by omega)
    rw [show 2 ^ B - 1 + 1 = 2 ^ B by omega] at this
    exact this
end Go.Proofs.YtbiglifngfgffaaGreatDoor

/- The library's variables that the walks read: kept by whatever leaves old blocks alone. -/
namespace Go.Proofs.YtbiglifngfgffaaGreatDoor
open Go.RowKit

structure Env (w : World) : Prop where
  mx : ∃ m : Int, w.cell? ⟨0, 0, none⟩ = some (.int .i64 m)
  pow : Lib.TabIs Tryz.prog w "internal/strconv.uint64pow10" .u64 Lib.pow10Tab
  db : w.cell? ⟨7, 15, none⟩ = some (.int .u8 4)
  es : ∃ (tp : TypeId) (p : Value), w.cell? ⟨4, 0, none⟩ = some (.iface tp p)
  er : ∃ (tp : TypeId) (p : Value), w.cell? ⟨5, 0, none⟩ = some (.iface tp p)
theorem Env.below {w w' : World} (h : Env w) (hb : Below w.heap.size w w') : Env w' := by
  have c : ∀ {i o : Nat} {v : Value}, w.cell? ⟨i, o, none⟩ = some v → w'.cell? ⟨i, o, none⟩ = some v := fun {i o v} hv => (hb.cell (p := ⟨i, o, none⟩) (World.block_lt_of_cell? w _ hv)).trans hv
  obtain ⟨m, hm⟩ := h.mx
  obtain ⟨t1, p1, h1⟩ := h.es
  obtain ⟨t2, p2, h2⟩ := h.er
  exact ⟨⟨m, c hm⟩, Lib.tabBelow_of_tabIs h.pow w' hb, c h.db, ⟨t1, p1, c h1⟩, ⟨t2, p2, c h2⟩⟩
end Go.Proofs.YtbiglifngfgffaaGreatDoor
