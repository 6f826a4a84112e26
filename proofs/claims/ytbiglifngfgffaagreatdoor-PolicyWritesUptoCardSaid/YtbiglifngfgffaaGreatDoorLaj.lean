/- Joined out of: PlL PlM. -/
import Derived.Test.YtbiglifngfgffaaGreatDoorLai
import Derived.Deep.AppendLies
import Derived.Deep.RegionHeldLaw
import Derived.Test.YtbiglifngfgffaaGreatDoorLaa
set_option linter.unusedVariables false
set_option linter.unusedSimpArgs false

/- The policy in memory: rows of rows; what a step may turn. -/
namespace Go.Proofs.YtbiglifngfgffaaGreatDoor
open Go.RowKit

/- What may turn is of these types. -/
def Off (S : Nat → Prop) (w : World) (T : List TypeId) : Prop := ∀ k, S k → ∃ cur e fz, w.heap[k]? = some (.cells cur e fz) ∧ e ∈ T
theorem own_off {S : Nat → Prop} {w w' : World} {T : List TypeId} {base size n : Nat} {e : TypeId} {v : Value} {xs : List Value} (h : w.ownsRow base e size v n xs) (hk : Keeps S w w') (ho : Off S w T) (he : e ∉ T) : w'.ownsRow base e size v n xs := by
  refine own_keep h hk fun g hg hs => ?_
  rcases h.2 with ⟨e1, _⟩ | ⟨g', cap, cur, e1, hb, hg', rest⟩
  · subst e1; cases hg
  · subst e1
    injection hg with hg
    subst hg
    obtain ⟨cur2, e2, fz, hh, hT⟩ := ho _ hs
    rw [hg'] at hh
    injection hh with hh
    injection hh with _ h2 _
    exact he (h2 ▸ hT)
theorem Blk.off {S : Nat → Prop} {w w' : World} {T : List TypeId} {g : Nat} {e : TypeId} {cs : Array Value} (h : Blk w g e cs) (hk : Keeps S w w') (ho : Off S w T) (he : e ∉ T) : Blk w' g e cs := by
  refine h.keep hk fun hs => ?_
  obtain ⟨cur2, e2, fz, hh, hT⟩ := ho _ hs
  unfold Blk at h
  rw [h] at hh
  injection hh with hh
  injection hh with _ h2 _
  exact he (h2 ▸ hT)
theorem ownOff {w : World} {base size n : Nat} {e : TypeId} {v : Value} {xs : List Value} (h : w.ownsRow base e size v n xs) : Off (fun k => v.ownBlock = some k) w [e] := by
  intro k hk
  rcases h.2 with ⟨e1, _⟩ | ⟨g', cap, cur, e1, hb, hg', rest⟩
  · subst e1; cases hk
  · subst e1
    injection hk with hk
    subst hk
    exact ⟨cur, e, (0, 0), hg', List.mem_singleton.2 rfl⟩
theorem Keeps.row {w w' : World} {row : Option Nat} (h : w.grownBy w' row) : Keeps (fun k => row = some k) w w' := Keeps.of_grown h fun k hk => hk
theorem Rs.off {S : Nat → Prop} {w w' : World} {T : List TypeId} {b P k n : Nat} {lv uv : Value} {ws : List ByteArray} (h : Rs w b P k n lv uv ws) (hk : Keeps S w w') (ho : Off S w T) (h1 : 81 ∉ T) (h2 : 89 ∉ T) : Rs w' b P k n lv uv ws := by
  refine ⟨Blk.off h.blk hk ho h1, ?_, h.ne, h.len, h.sizes⟩
  obtain ⟨base, hb⟩ := h.row
  exact ⟨base, own_off hb hk ho h2⟩
theorem Rs.alloc {w : World} {b P k n : Nat} {lv uv : Value} {ws : List ByteArray} (h : Rs w b P k n lv uv ws) (o : Obj) : Rs (w.alloc o) b P k n lv uv ws := h.below (boxed w o)
theorem Keeps.grown {S : Nat → Prop} {a w w' : World} {row : Option Nat} (h : Keeps S a w) (hg : w.grownBy w' row) (hr : ∀ k, row = some k → S k ∨ a.heap.size ≤ k) : Keeps S a w' :=
  ⟨hg.os.trans h.os, hg.tape.trans h.tape, hg.output.trans h.output, Nat.le_trans h.size hg.size, fun k hk hs => (hg.block k (Nat.lt_of_lt_of_le hk h.size) (fun e => by
    rcases hr k e.symm with h | h
    · exact hs h
    · omega)).trans (h.block k hk hs)⟩

/- Names: groups, or tags. -/
def strCells (l : List ByteArray) : List Value := l.map Value.string
theorem strCells_snoc (l : List ByteArray) (s : ByteArray) : strCells (l ++ [s]) = strCells l ++ [.string s] := by simp [strCells]
def nmPair (x : Nm × Value) : ByteArray × Value := (x.1.name, x.2)
def NmRow (w : World) (base : Nat) (v : Value) (l : List Nm) : Prop := ∃ xs : List (Nm × Value), xs.map (·.1) = l ∧ w.ownsRow base 46 2 v l.length (nmCells (xs.map nmPair)) ∧ ∀ x ∈ xs, w.ownsRow base 9 1 x.2 x.1.list.length (strCells x.1.list)
theorem NmRow.nil (w : World) (base : Nat) : NmRow w base (.slice none 0 0) [] := ⟨[], rfl, World.ownsRow_nil _ _ _ _, fun x hx => by cases hx⟩
theorem nmCells_snoc (l : List (ByteArray × Value)) (x : ByteArray × Value) : nmCells (l ++ [x]) = nmCells l ++ [.string x.1, x.2] := by simp [nmCells]
theorem NmRow.keep {S : Nat → Prop} {w w' : World} {T : List TypeId} {base : Nat} {v : Value} {l : List Nm} (h : NmRow w base v l) (hk : Keeps S w w') (ho : Off S w T) (he : 9 ∉ T) (hv : ∀ g, v.ownBlock = some g → ¬ S g) : NmRow w' base v l := by
  obtain ⟨xs, h1, h2, h3⟩ := h
  exact ⟨xs, h1, own_keep h2 hk hv, fun x hx => own_off (h3 x hx) hk ho he⟩
theorem NmRow.below {w w' : World} {base : Nat} {v : Value} {l : List Nm} (h : NmRow w base v l) (hb : Below w.heap.size w w') : NmRow w' base v l := by
  obtain ⟨xs, h1, h2, h3⟩ := h
  exact ⟨xs, h1, own_below h2 hb, fun x hx => own_below (h3 x hx) hb⟩
theorem NmRow.has {w : World} {base : Nat} {v : Value} {l : List Nm} (h : NmRow w base v l) (s : ByteArray) : ∃ ys : List (ByteArray × Value), ys.length = l.length ∧ RowR w v ys.length 2 (nmCells ys) ∧ (ys.any fun x => decide (x.1 = s)) = hasN l s := by
  obtain ⟨xs, rfl, h2, h3⟩ := h
  refine ⟨xs.map nmPair, by simp, ?_, ?_⟩
  · have := RowR.of_own h2
    simpa using this
  · unfold hasN
    rw [List.any_map, List.any_map]
    rfl
theorem NmRow.shape {w : World} {base : Nat} {v : Value} {l : List Nm} (h : NmRow w base v l) : ∃ A cap, v = .slice A l.length cap := by
  obtain ⟨xs, rfl, h2, h3⟩ := h
  exact own_shape h2
/- Hosts: hsCells, as they are. -/
theorem hsCells_snoc (l : List Hs) (x : Hs) : hsCells (l ++ [x]) = hsCells l ++ [.string x.name, .bool x.net.a.v6, .int .u64 (x.net.a.hi : Int), .int .u64 (x.net.a.lo : Int), .int .u8 (x.net.bits : Int)] := by simp [hsCells]
/- Accepts. -/
def selCells (l : List Sel) : List Value := l.flatMap fun s => s.cells.toList
theorem selCells_snoc (l : List Sel) (x : Sel) : selCells (l ++ [x]) = selCells l ++ x.cells.toList := by simp [selCells]
def portCells (l : List (Nat × Nat)) : List Value := l.flatMap fun x => [Value.int .u16 (x.1 : Int), .int .u16 (x.2 : Int)]
theorem portCells_snoc (l : List (Nat × Nat)) (x : Nat × Nat) : portCells (l ++ [x]) = portCells l ++ [.int .u16 (x.1 : Int), .int .u16 (x.2 : Int)] := by simp [portCells]
structure AcV where
  a : Ac
  p : Value
  s : Value
  d : Value
  o : Value
structure AcMem (w : World) (base : Nat) (x : AcV) : Prop where
  p : w.ownsRow base 5 1 x.p x.a.protos.length (protoCells x.a.protos)
  s : w.ownsRow base 59 6 x.s x.a.src.length (selCells x.a.src)
  d : w.ownsRow base 59 6 x.d x.a.dst.length (selCells x.a.dst)
  o : w.ownsRow base 104 2 x.o x.a.ports.length (portCells x.a.ports)
def acCells (l : List AcV) : List Value := l.flatMap fun x => [x.p, x.s, x.d, x.o]
theorem acCells_snoc (l : List AcV) (x : AcV) : acCells (l ++ [x]) = acCells l ++ [x.p, x.s, x.d, x.o] := by simp [acCells]
def AcRow (w : World) (base : Nat) (v : Value) (l : List Ac) : Prop := ∃ xs : List AcV, xs.map (·.a) = l ∧ w.ownsRow base 57 4 v l.length (acCells xs) ∧ ∀ x ∈ xs, AcMem w base x
theorem AcRow.nil (w : World) (base : Nat) : AcRow w base (.slice none 0 0) [] := ⟨[], rfl, World.ownsRow_nil _ _ _ _, fun x hx => by cases hx⟩
theorem AcMem.keep {S : Nat → Prop} {w w' : World} {T : List TypeId} {base : Nat} {x : AcV} (h : AcMem w base x) (hk : Keeps S w w') (ho : Off S w T) (h1 : 5 ∉ T) (h2 : 59 ∉ T) (h3 : 104 ∉ T) : AcMem w' base x :=
  ⟨own_off h.p hk ho h1, own_off h.s hk ho h2, own_off h.d hk ho h2, own_off h.o hk ho h3⟩
theorem AcRow.keep {S : Nat → Prop} {w w' : World} {T : List TypeId} {base : Nat} {v : Value} {l : List Ac} (h : AcRow w base v l) (hk : Keeps S w w') (ho : Off S w T) (h1 : 5 ∉ T) (h2 : 59 ∉ T) (h3 : 104 ∉ T) (hv : ∀ g, v.ownBlock = some g → ¬ S g) : AcRow w' base v l := by
  obtain ⟨xs, e, ha, hb⟩ := h
  exact ⟨xs, e, own_keep ha hk hv, fun x hx => (hb x hx).keep hk ho h1 h2 h3⟩
theorem AcRow.shape {w : World} {base : Nat} {v : Value} {l : List Ac} (h : AcRow w base v l) : ∃ A cap, v = .slice A l.length cap := by
  obtain ⟨xs, rfl, h2, h3⟩ := h
  exact own_shape h2
/- Who was named, and where. -/
abbrev Us := Sel × Nat × Nat
def usCells (l : List (Us × ByteArray)) : List Value := l.flatMap fun x => x.1.1.cells.toList ++ [.string x.2, .int .i64 (x.1.2.1 : Int), .int .i64 (x.1.2.2 : Int)]
theorem usCells_snoc (l : List (Us × ByteArray)) (x : Us × ByteArray) : usCells (l ++ [x]) = usCells l ++ (x.1.1.cells.toList ++ [.string x.2, .int .i64 (x.1.2.1 : Int), .int .i64 (x.1.2.2 : Int)]) := by simp [usCells]
def UsRow (w : World) (base : Nat) (v : Value) (l : List Us) : Prop := ∃ xs : List (Us × ByteArray), xs.map (·.1) = l ∧ w.ownsRow base 91 9 v l.length (usCells xs)
theorem UsRow.nil (w : World) (base : Nat) : UsRow w base (.slice none 0 0) [] := ⟨[], rfl, World.ownsRow_nil _ _ _ _⟩
theorem UsRow.keep {S : Nat → Prop} {w w' : World} {base : Nat} {v : Value} {l : List Us} (h : UsRow w base v l) (hk : Keeps S w w') (hv : ∀ g, v.ownBlock = some g → ¬ S g) : UsRow w' base v l := by
  obtain ⟨xs, e, ha⟩ := h
  exact ⟨xs, e, own_keep ha hk hv⟩
theorem UsRow.shape {w : World} {base : Nat} {v : Value} {l : List Us} (h : UsRow w base v l) : ∃ A cap, v = .slice A l.length cap := by
  obtain ⟨xs, rfl, h2⟩ := h
  exact own_shape h2
theorem RowR.of_own' {w : World} {base size n m : Nat} {e : TypeId} {v : Value} {xs : List Value} (h : w.ownsRow base e size v n xs) (hm : m = n) : RowR w v m size xs := by subst hm; exact RowR.of_own h

theorem info_nm : (Tryz.prog.info? 46).map (fun i => (i.zero, i.size, i.bytes)) = some (some (.agg #[.string ⟨#[]⟩, .slice none 0 0]), 2, 40) := by kernel_rfl
theorem info_hs : (Tryz.prog.info? 53).map (fun i => (i.zero, i.size, i.bytes)) = some (some (.agg #[.string ⟨#[]⟩, .bool false, .int .u64 0, .int .u64 0, .int .u8 0]), 5, 48) := by kernel_rfl
theorem info_sel : (Tryz.prog.info? 59).map (fun i => (i.zero, i.size, i.bytes)) = some (some (.agg #[.int .u8 0, .string ⟨#[]⟩, .bool false, .int .u64 0, .int .u64 0, .int .u8 0]), 6, 56) := by kernel_rfl
theorem info_po : (Tryz.prog.info? 104).map (fun i => (i.zero, i.size, i.bytes)) = some (some (.agg #[.int .u16 0, .int .u16 0]), 2, 4) := by kernel_rfl
theorem info_ac : (Tryz.prog.info? 57).map (fun i => (i.zero, i.size, i.bytes)) = some (some (.agg #[.slice none 0 0, .slice none 0 0, .slice none 0 0, .slice none 0 0]), 4, 96) := by kernel_rfl
theorem info_us : (Tryz.prog.info? 91).map (fun i => (i.zero, i.size, i.bytes)) = some (some (.agg #[.int .u8 0, .string ⟨#[]⟩, .bool false, .int .u64 0, .int .u64 0, .int .u8 0, .string ⟨#[]⟩, .int .i64 0, .int .i64 0]), 9, 88) := by kernel_rfl

/- What a line's reading answers: a fault at a word, or what was read. -/
def LineR {α : Type} (o : Except Bad α) (n : Nat) (ok : α → Ending → Prop) (r : Ending) : Prop := match o with
  | .error e => r = PanicAt e.1 n e.2
  | .ok x => ok x r
theorem LineR.bad {α : Type} {o : Except Bad α} {n e i : Nat} {ok : α → Ending → Prop} (h : o = .error (e, i)) : LineR o n ok (PanicAt e n i) := by subst h; rfl
theorem LineR.good {α : Type} {o : Except Bad α} {n : Nat} {ok : α → Ending → Prop} {r : Ending} {x : α} (h : o = .ok x) (hr : ok x r) : LineR o n ok r := by subst h; exact hr
/- The same, with what may have been turned: less where there is a fault. -/
def OutR {α : Type} (S0 S : Nat → Prop) (w w' : World) (o : Except Bad α) (n : Nat) (ok : α → Ending → Prop) (r : Ending) : Prop := match o with
  | .error e => Keeps S0 w w' ∧ r = PanicAt e.1 n e.2
  | .ok x => Keeps S w w' ∧ ok x r
theorem OutR.bad {α : Type} {S0 S : Nat → Prop} {w w' : World} {o : Except Bad α} {n e i : Nat} {ok : α → Ending → Prop} (hk : Keeps S0 w w') (h : o = .error (e, i)) : OutR S0 S w w' o n ok (PanicAt e n i) := by subst h; exact ⟨hk, rfl⟩
theorem OutR.good {α : Type} {S0 S : Nat → Prop} {w w' : World} {o : Except Bad α} {n : Nat} {ok : α → Ending → Prop} {r : Ending} {x : α} (h : o = .ok x) (hk : Keeps S w w') (hr : ok x r) : OutR S0 S w w' o n ok r := by subst h; exact ⟨hk, hr⟩
theorem OutR.line {α : Type} {S0 S : Nat → Prop} {w w' : World} {o : Except Bad α} {n : Nat} {ok : α → Ending → Prop} {r : Ending} (h : OutR S0 S w w' o n ok r) (h0 : ∀ k, S0 k → S k) : Keeps S w w' ∧ LineR o n ok r := by
  cases o with
  | error e => exact ⟨h.1.mono fun k _ => h0 k, h.2⟩
  | ok x => exact h
theorem OutR.err {α : Type} {S0 S : Nat → Prop} {w w' : World} {o : Except Bad α} {n : Nat} {ok : α → Ending → Prop} {r : Ending} (h : OutR S0 S w w' o n ok r) (e : Bad) (he : o = .error e) : Keeps S0 w w' := by
  subst he
  exact h.1
end Go.Proofs.YtbiglifngfgffaaGreatDoor

/- A group's line, or a tag's (named): the walk. -/
namespace Go.Proofs.YtbiglifngfgffaaGreatDoor
open Go.RowKit
attribute [local go_sem ↓] Go.wp_at_zero Go.wp_at_succ

/- What is read, step by step. -/
def namesT (nm : ByteArray) (ws : List ByteArray) (k : Nat) (acc : List ByteArray) (first : Bool) : Except Bad Nm :=
  if first = true ∧ ws.length ≤ k then .error (190, ws.length) else (namesGo (ws.drop k) k acc.length).map fun l => ⟨nm, acc ++ l⟩
theorem namesT_step {nm s : ByteArray} {ws : List ByteArray} {k : Nat} {acc : List ByteArray} {first : Bool} (h : ws[k]? = some s) : namesT nm ws k acc first = if labelB s = false then .error (191, k) else if 64 ≤ acc.length then .error (198, k) else namesT nm ws (k + 1) (acc ++ [s]) false := by
  have hk : k < ws.length := (List.getElem?_eq_some_iff.1 h).1
  have hg : ws[k] = s := (List.getElem?_eq_some_iff.1 h).2
  unfold namesT
  rw [if_neg (show ¬ (first = true ∧ ws.length ≤ k) by omega), if_neg (show ¬ (false = true ∧ ws.length ≤ k + 1) by simp), List.drop_eq_getElem_cons hk, hg]
  conv => lhs; unfold namesGo
  by_cases h1 : labelB s = false
  · rw [if_pos h1, if_pos h1]; rfl
  rw [if_neg h1, if_neg h1]
  by_cases h2 : 64 ≤ acc.length
  · rw [if_pos h2, if_pos h2]; rfl
  rw [if_neg h2, if_neg h2, List.length_append, List.length_singleton]
  cases namesGo (List.drop (k + 1) ws) (k + 1) (acc.length + 1) with
  | error e => rfl
  | ok l => simp [Except.map]
theorem namesT_end {nm : ByteArray} {ws : List ByteArray} {k : Nat} {acc : List ByteArray} (h : ws.length ≤ k) : namesT nm ws k acc false = .ok ⟨nm, acc⟩ := by
  unfold namesT
  rw [if_neg (by simp), List.drop_eq_nil_of_le h]
  simp [namesGo, Except.map]
theorem namesT_none {nm : ByteArray} {ws : List ByteArray} {k : Nat} {acc : List ByteArray} (h : ws.length ≤ k) : namesT nm ws k acc true = .error (190, ws.length) := by
  unfold namesT
  rw [if_pos ⟨rfl, h⟩]
theorem namedP_eq {ws : List ByteArray} {told : List Nm} (hne : ws ≠ []) : namedP ws told = if 64 ≤ told.length then .error (198, 0) else match ws[1]? with
    | none => .error (190, ws.length)
    | some nm => if labelB nm = false then .error (191, 1) else if hasN told nm = true then .error (197, 1) else match ws[2]? with
      | none => .error (190, ws.length)
      | some e => if e ≠ W_eq then .error (190, 2) else namesT nm ws 3 [] true := by
  unfold namedP
  by_cases h : 64 ≤ told.length
  · rw [if_pos h, if_pos h]
  rw [if_neg h, if_neg h]
  match ws with
  | [] => exact absurd rfl hne
  | [a] => rfl
  | [a, nm] => rfl
  | a :: nm :: e :: r =>
    simp only [List.getElem?_cons_succ, List.getElem?_cons_zero]
    unfold namesT
    cases r with
    | nil => simp
    | cons s r => simp

/- Which word a reader is at. -/
def nextOf (w : World) (b : Nat) : Nat := match w.cell? ⟨b, 1, none⟩ with
  | some (.int _ i) => i.toNat
  | _ => 0
theorem Rs.next {w : World} {b P k n : Nat} {lv uv : Value} {ws : List ByteArray} (h : Rs w b P k n lv uv ws) : nextOf w b = k := by
  have r1 := h.blk.cell 1
  simp at r1
  unfold nextOf
  rw [r1]
  rfl
def NamedOk (w : World) (b P n base q : Nat) (lv uv lst : Value) (ws : List ByteArray) (told : List Nm) (pc : Array Value) (w' : World) (x : Nm) (r : Ending) : Prop :=
  r = .returned (.tuple #[]) ∧ ∃ k' lst', Rs w' b P k' n lv uv ws ∧ Blk w' P 26 (pc.setIfInBounds q lst') ∧ NmRow w' base lst' (told ++ [x]) ∧ ∀ g, lst'.ownBlock = some g → lst.ownBlock = some g ∨ w.heap.size ≤ g

set_option maxHeartbeats 8000000 in
set_option maxRecDepth 100000 in
theorem named_any {w : World} {b P n base q : Nat} {lv uv lst : Value} {ws : List ByteArray} {told : List Nm} {pc : Array Value} (h : Rs w b P 1 n lv uv ws) (hP : Blk w P 26 pc) (hq : pc[q]? = some lst) (hN : NmRow w base lst told) (hbs : base ≤ w.heap.size) :
    Calls Tryz.prog 57 #[.pointer (some ⟨b, 0, none⟩), .pointer (some ⟨P, q, none⟩)] w fun r w' => OutR (fun k => k = b) (fun k => k = b ∨ k = P ∨ lst.ownBlock = some k) w w' (namedP ws told) n (NamedOk w b P n base q lv uv lst ws told pc w') r := by
  obtain ⟨A, cap, rfl⟩ := hN.shape
  obtain ⟨T, hT⟩ : ∃ t, t = told.length := ⟨_, rfl⟩
  rw [← hT] at hq hN ⊢
  have hPb : P ≠ b := hP.ne_ h.blk (by decide)
  have c0 := (hP.cell q).trans hq
  have hlen1 : 1 ≤ ws.length := by
    have := h.ne
    cases ws with
    | nil => exact absurd rfl this
    | cons x r => simp
  have hroom := h.room (by omega) (by omega) T
  rw [show atW 1 ws = 0 by unfold atW; rw [if_pos hlen1]] at hroom
  obtain ⟨RES, hRES⟩ : ∃ r, r = namedP ws told := ⟨_, rfl⟩
  rw [← hRES]
  rw [namedP_eq h.ne, ← hT] at hRES
  have HRoom := Lib.hid hroom
  have H := Lib.hid h
  have HP := Lib.hid hP
  have HN := Lib.hid hN
  have HRES := Lib.hid hRES
  have HT := Lib.hid hT
  have Hb0 := Lib.hid (Keeps.refl (fun k => k = b ∨ k = P ∨ (Value.slice A T cap).ownBlock = some k) w)
  clear hroom h hP hN hRES hT
  go_enter Tryz.func57, Tryz.ntmps57
  go_wp2_with fail
  go_at_call 91
  refine HRoom.out.mono ?_
  rintro r w1 ⟨h1, d1⟩
  by_cases hT64 : T < 64
  case neg =>
    rw [decide_eq_false hT64] at h1
    unfold UnlessR at h1
    subst h1
    unfold PanicAt
    exact ⟨rfl, OutR.bad (Keeps.of_below d1 fun k hk _ => hk) (by rw [HRES.out, if_pos (by omega)])⟩
  rw [decide_eq_true hT64] at h1
  unfold UnlessR at h1
  subst h1
  have H1 := Lib.hid (H.out.below d1)
  have HP1 := Lib.hid (HP.out.below d1 HP.out.lt)
  have HN1 := Lib.hid (HN.out.below d1)
  have HK1 := Lib.hid (Keeps.of_below (S := fun x => x = b) d1 fun k hk _ => hk)
  have hR1 := HRES.out
  rw [if_neg (by omega)] at hR1
  have HR1 := Lib.hid hR1
  clear hR1 HRES HRoom d1 H HP c0
  have hname := H1.out.name (by omega)
  unfold NameR at hname
  have HName := Lib.hid hname
  clear hname
  go_wp2_with fail
  go_at_call 92
  refine HName.out.mono ?_
  rintro r w2 ⟨⟨d2, e2⟩, h2⟩
  have HK2 := Lib.hid (HK1.out.trans d2)
  cases hs1 : ws[1]? with
  | none =>
    rw [hs1] at h2
    simp only at h2
    subst h2
    unfold PanicAt
    have hR := HR1.out
    rw [hs1] at hR
    exact ⟨rfl, OutR.bad (HK2.out) hR⟩
  | some nm =>
  rw [hs1] at h2
  simp only at h2
  have hR2 := HR1.out
  rw [hs1] at hR2
  simp only at hR2
  by_cases hlab : labelB nm = true
  case neg =>
    have hlf : labelB nm = false := by simpa using hlab
    rw [if_neg hlab] at h2
    subst h2
    unfold PanicAt
    rw [if_pos hlf] at hR2
    exact ⟨rfl, OutR.bad (HK2.out) hR2⟩
  rw [if_pos hlab] at h2
  subst h2
  rw [if_neg (by simp [hlab])] at hR2
  have HR2 := Lib.hid hR2
  have H2 := Lib.hid e2
  have HP2 := Lib.hid (HP1.out.keep d2 hPb)
  have hAb : ∀ g, (Value.slice A T cap).ownBlock = some g → ¬ g = b := by
    intro g hg e
    subst e
    obtain ⟨xs, _, ho, _⟩ := HN1.out
    rcases ho.2 with ⟨e1, _⟩ | ⟨g', cap', cur, e1, hb, hg', _⟩
    · rw [e1] at hg; cases hg
    · rw [e1] at hg
      injection hg with hg
      subst hg
      exact (Blk.ne_ (t := 46) (cs := cur) (show Blk w1 g' _ cur from hg') H1.out.blk (by decide)) rfl
  have HN2 := Lib.hid (HN1.out.keep d2 (T := [81]) (fun k hk => ⟨_, _, _, by subst hk; exact H1.out.blk, by simp⟩) (by decide) hAb)
  clear hR2 HR1 HName HN1 HP1 H1 HK1 e2 d2 hlab
  go_wp2_with fail
  have hB3 := Lib.hid (Blk.new w2 46 #[.string nm, .slice none 0 0])
  have hb3 := boxed w2 (.cells #[.string nm, .slice none 0 0] 46)
  have H3 := Lib.hid (H2.out.below hb3)
  have HP3 := Lib.hid (HP2.out.alloc (.cells #[.string nm, .slice none 0 0] 46))
  have HN3 := Lib.hid (HN2.out.below hb3)
  have HK3 := Lib.hid (HK2.out.alloc (.cells #[.string nm, .slice none 0 0] 46))
  have hsz3 : w2.heap.size < (w2.alloc (.cells #[.string nm, .slice none 0 0] 46)).heap.size := by simp
  have hszb : w.heap.size ≤ w2.heap.size := HK2.out.size
  clear H2 HP2 HN2 HK2 hb3
  generalize w2.alloc (.cells #[.string nm, .slice none 0 0] 46) = w3 at hB3 H3 HP3 HN3 HK3 hsz3 ⊢
  generalize w2.heap.size = N at hB3 hsz3 hszb ⊢
  have hNb : N ≠ b := hB3.out.ne_ H3.out.blk (by decide)
  have hNP : N ≠ P := hB3.out.ne_ HP3.out (by decide)
  have hAN : ∀ g, (Value.slice A T cap).ownBlock = some g → g < w.heap.size := by
    obtain ⟨xs, _, ho, _⟩ := HN.out
    exact fun g hg => (ho.lt g hg).2
  obtain ⟨ys, hyl, hyr, hya⟩ := HN3.out.has nm
  have hhas := fun W (hW : Below w3.heap.size w3 W) => has_any ys (by have := HT.out; omega) _ (hyr.below hW) nm
  rw [hya] at hhas
  have x0 := (HP3.out.cell q).trans hq
  have x1 := hB3.out.cell 0
  simp at x1
  have hun := fun W (hW : Rs W b P (1 + 1) n lv uv ws) (is : Bool) => hW.unless (by omega) (by omega) is 197
  rw [atW_take (by have := (List.getElem?_eq_some_iff.1 hs1).1; omega)] at hun
  have HHas := Lib.hid (hhas w3.drew ⟨rfl, rfl, rfl, Nat.le_refl _, fun _ _ => rfl⟩)
  have HUn := Lib.hid hun
  have HAN := Lib.hid hAN
  have HAb := Lib.hid hAb
  clear hyl hyr hya hhas hun hAN hAb
  by_cases hh : hasN told nm = true
  · rw [hh] at HHas
    have hR := HR2.out
    rw [if_pos hh] at hR
    have HR := Lib.hid hR
    have HUn' : RowKit.Hid (∀ (W : World), Rs W b P (1 + 1) n lv uv ws → Calls Tryz.prog 30 #[.pointer (some ⟨b, 0, none⟩), .bool false, .int .i64 197] W fun r w' => r = PanicAt 197 n 1 ∧ Below W.heap.size W w') := Lib.hid fun W hW => HUn.out W hW false
    clear hR hh HR2 HUn
    refine wp_region_held_drew (S := (fun w' => w'.cell? ⟨P, q, none⟩ = some (.slice A T cap) ∧ w'.cell? ⟨N, 0, none⟩ = some (.string nm))) (by kernel_rfl) (⟨x0, x1⟩) (fun hHeld => ?_)
    refine tH 0 ?_; try simp only [Ap]
    refine tH 1 ?_; try simp only [Ap]
    refine tH 2 ?_; try simp only [Ap]
    refine tH 3 ?_; try simp only [Ap]
    refine tH 4 ?_; try simp only [Ap]
    refine tH 5 ?_; try simp only [Ap]
    refine wpAnyH_ready (rs := [6]) (by kernel_rfl) (by simp) ?_
    refine AllReadyH.cons rfl (fun K hK => ?_) AllReadyH.nil
    go_simp
    refine HHas.out.mono ?_
    rintro r w4 ⟨rfl, d4⟩
    have e4 : Below w3.heap.size w3 w4 := ⟨d4.os, d4.tape, d4.output, d4.size, d4.block⟩
    have y0 := ((HP3.out.below e4 HP3.out.lt).cell q).trans hq
    have y1 := (hB3.out.below e4 hB3.out.lt).cell 0
    simp at y1
    refine hK.out _ _ (⟨y0, y1⟩) (fun hHeld => ?_)
    clear hK K
    try simp only [Ap]
    refine tH 7 ?_; try simp only [Ap]
    refine wpAnyH_ready (rs := [8]) (by kernel_rfl) (by simp) ?_
    refine AllReadyH.cons rfl (fun K hK => ?_) AllReadyH.nil
    go_simp
    refine (HUn'.out _ (H3.out.below e4)).mono ?_
    rintro r w5 ⟨rfl, d5⟩
    unfold PanicAt
    exact ⟨rfl, OutR.bad (((HK3.out.trans (Keeps.of_below e4 fun k hk _ => hk)).trans (Keeps.of_below d5 fun k hk _ => hk))) HR.out⟩
  have hhf : hasN told nm = false := by simpa using hh
  rw [hhf] at HHas
  have hR := HR2.out
  rw [if_neg hh] at hR
  have HR := Lib.hid hR
  have HUn' : RowKit.Hid (∀ (W : World), Rs W b P (1 + 1) n lv uv ws → Calls Tryz.prog 30 #[.pointer (some ⟨b, 0, none⟩), .bool true, .int .i64 197] W fun r w' => r = .returned (.tuple #[]) ∧ Below W.heap.size W w') := Lib.hid fun W hW => HUn.out W hW true
  clear hR hh hhf HR2 HUn
  refine wp_region_held_drew (S := (fun w' => w'.cell? ⟨P, q, none⟩ = some (.slice A T cap) ∧ w'.cell? ⟨N, 0, none⟩ = some (.string nm))) (by kernel_rfl) (⟨x0, x1⟩) (fun hHeld => ?_)
  refine tH 0 ?_; try simp only [Ap]
  refine tH 1 ?_; try simp only [Ap]
  refine tH 2 ?_; try simp only [Ap]
  refine tH 3 ?_; try simp only [Ap]
  refine tH 4 ?_; try simp only [Ap]
  refine tH 5 ?_; try simp only [Ap]
  refine wpAnyH_ready (rs := [6]) (by kernel_rfl) (by simp) ?_
  refine AllReadyH.cons rfl (fun K hK => ?_) AllReadyH.nil
  go_simp
  refine HHas.out.mono ?_
  rintro r w4 ⟨rfl, d4⟩
  have e4 : Below w3.heap.size w3 w4 := ⟨d4.os, d4.tape, d4.output, d4.size, d4.block⟩
  have y0 := ((HP3.out.below e4 HP3.out.lt).cell q).trans hq
  have y1 := (hB3.out.below e4 hB3.out.lt).cell 0
  simp at y1
  refine hK.out _ _ (⟨y0, y1⟩) (fun hHeld => ?_)
  clear hK K
  try simp only [Ap]
  refine tH 7 ?_; try simp only [Ap]
  refine wpAnyH_ready (rs := [8]) (by kernel_rfl) (by simp) ?_
  refine AllReadyH.cons rfl (fun K hK => ?_) AllReadyH.nil
  go_simp
  refine (HUn'.out _ (H3.out.below e4)).mono ?_
  rintro r w5 ⟨rfl, d5⟩
  have e5 := after e4 d5
  have z0 := ((HP3.out.below e5 HP3.out.lt).cell q).trans hq
  have z1 := (hB3.out.below e5 hB3.out.lt).cell 0
  simp at z1
  refine hK.out _ _ (⟨z0, z1⟩) (fun hHeld => ?_)
  clear hK K
  try simp only [Ap]
  refine wpAnyH_done (by kernel_rfl) ?_ _
  have H5 := Lib.hid (H3.out.below e5)
  have HP5 := Lib.hid (HP3.out.below e5 HP3.out.lt)
  have HB5 := Lib.hid (hB3.out.below e5 hB3.out.lt)
  have HN5 := Lib.hid (HN3.out.below e5)
  have HK5 := Lib.hid (HK3.out.trans (Keeps.of_below e5 fun k hk _ => hk))
  have hsz5 : w3.heap.size ≤ w5.heap.size := e5.size
  clear H3 HP3 hB3 HN3 HK3 e4 e5 d5 y0 y1 z0 z1 x0 x1 hHeld HHas HUn'
  have hmust := H5.out.must (by have := (List.getElem?_eq_some_iff.1 hs1).1; omega) W_eq
  unfold MustR at hmust
  have HMust : RowKit.Hid (Calls Tryz.prog 93 #[.pointer (some ⟨b, 0, none⟩), .string ⟨#[61]⟩] w5 _) := Lib.hid hmust
  clear hmust
  go_wp2_with fail
  go_at_call 93
  refine HMust.out.mono ?_
  rintro r w6 ⟨⟨d6, e6⟩, h6⟩
  have HK6 := Lib.hid (HK5.out.trans d6)
  have hR3 := HR.out
  cases hs2 : ws[2]? with
  | none =>
    rw [show 1 + 1 = 2 from rfl, hs2] at h6
    simp only at h6
    subst h6
    unfold PanicAt
    rw [hs2] at hR3
    exact ⟨rfl, OutR.bad (HK6.out) hR3⟩
  | some eq =>
  rw [show 1 + 1 = 2 from rfl, hs2] at h6
  rw [hs2] at hR3
  simp only at h6 hR3
  by_cases heq : eq = W_eq
  case neg =>
    rw [if_neg heq] at h6
    subst h6
    unfold PanicAt
    rw [if_pos heq] at hR3
    exact ⟨rfl, OutR.bad (HK6.out) hR3⟩
  rw [if_pos heq] at h6
  rw [if_neg (by simp [heq])] at hR3
  subst h6
  have hlen3 : 3 ≤ ws.length := by have := (List.getElem?_eq_some_iff.1 hs2).1; omega
  have HR6 := Lib.hid hR3
  have H6 := Lib.hid e6
  have HP6 := Lib.hid (HP5.out.keep d6 hPb)
  have HB6 := Lib.hid (HB5.out.keep d6 hNb)
  have HN6 := Lib.hid (HN5.out.keep d6 (T := [81]) (fun k hk => ⟨_, _, _, by subst hk; exact H5.out.blk, by simp⟩) (by decide) HAb.out)
  have hsz6 : w5.heap.size ≤ w6.heap.size := d6.size
  clear HMust hR3 HR HK5 HP5 HB5 HN5 H5 d6 e6 hs1 hs2 heq
  obtain ⟨i0, hi, hz0, hz1, hz2⟩ := info_parts info_str
  have FIN : RowKit.Hid (∀ wx, Keeps (fun x => x = b ∨ x = N) w6 wx → Keeps (fun k => k = b) w wx) := Lib.hid fun wx h => ((HK6.out.mono (T := fun x => x = b ∨ x = N) fun k _ hk => Or.inl hk).trans h).mono fun k hk hs => hs.elim id fun e => absurd hk (by omega)
  go_wp2_with fail
  go_loopw [5] (fun v5 wr => ∃ (k : Nat) (acc : List ByteArray) (first : Bool) (v : Value), v5 = .bool first ∧ 3 ≤ k ∧ k ≤ ws.length ∧ RowKit.Hid (first = true → acc = []) ∧ RowKit.Hid (acc.length ≤ 64) ∧ RowKit.Hid (Rs wr b P k n lv uv ws) ∧ RowKit.Hid (Keeps (fun x => x = b ∨ x = N) w6 wr) ∧ RowKit.Hid (Blk wr N 46 #[.string nm, v]) ∧ RowKit.Hid (wr.ownsRow w6.heap.size 9 1 v acc.length (strCells acc)) ∧ RowKit.Hid (RES = namesT nm ws k acc first)) (fun _ wr => ws.length + 1 - nextOf wr b)
  case atStart => exact ⟨3, [], true, _, rfl, by omega, hlen3, Lib.hid fun _ => rfl, Lib.hid (by simp), H6, Lib.hid (Keeps.refl _ _), HB6, Lib.hid (World.ownsRow_nil _ _ _ _), HR6⟩
  case round =>
    obtain ⟨k, acc, first, v, rfl, hk3, hk, hfa, hacc, hrs, hkp, hbn, hown, hres⟩ := hrel
    have Hnx := Lib.hid hrs.out.next
    cases first with
    | true =>
      have RS := hrs
      have KP := hkp
      have BN := hbn
      have OW := hown
      clear hrs hkp hbn hown hfa
      have hname := RS.out.name hk
      unfold NameR at hname
      have HName := Lib.hid hname
      clear hname
      go_wp2_with fail
      go_at_call 92
      refine HName.out.mono ?_
      rintro r w8 ⟨⟨d8, e8⟩, h8⟩
      have KP8 := Lib.hid (KP.out.trans (d8.mono fun k _ hk => Or.inl hk))
      have BN8 := Lib.hid (BN.out.keep d8 hNb)
      have OW8 := Lib.hid (own_off OW.out d8 (T := [81]) (fun k hk => ⟨_, _, _, by subst hk; exact RS.out.blk, by simp⟩) (by decide))
      clear KP BN OW RS HName d8
      cases hsk : ws[k]? with
      | none =>
        have hge : ws.length ≤ k := by rw [List.getElem?_eq_none_iff] at hsk; exact hsk
        rw [hsk] at h8
        simp only at h8
        subst h8
        unfold PanicAt
        exact ⟨rfl, OutR.bad (FIN.out _ KP8.out) (by rw [hres.out, namesT_none hge])⟩
      | some s =>
      have hlt : k < ws.length := (List.getElem?_eq_some_iff.1 hsk).1
      rw [hsk] at h8
      simp only at h8
      have hst := hres.out
      rw [namesT_step hsk] at hst
      by_cases hl : labelB s = true
      case neg =>
        rw [if_neg hl] at h8
        subst h8
        unfold PanicAt
        rw [if_pos (by simpa using hl)] at hst
        exact ⟨rfl, OutR.bad (FIN.out _ KP8.out) hst⟩
      rw [if_pos hl] at h8
      subst h8
      rw [if_neg (by simp [hl])] at hst
      have Hst := Lib.hid hst
      have RS8 := Lib.hid e8
      clear hst hres hsk hl e8
      obtain ⟨A1, c1, rfl⟩ := own_shape OW8.out
      have x1 := BN8.out.cell 1
      simp at x1
      have z1 := BN8.out.frozen 1
      have hroom := RS8.out.room (by omega) (by omega) acc.length
      rw [atW_take hlt] at hroom
      have HRoom := Lib.hid hroom
      have hacc := hacc.out
      obtain ⟨L, hL⟩ : ∃ l, l = acc.length := ⟨_, rfl⟩
      rw [← hL] at x1 hacc HRoom BN8 OW8 Hst
      have HL := Lib.hid hL
      clear hroom hL
      go_wp2_with fail
      go_at_call 91
      refine HRoom.out.mono ?_
      rintro r w9 ⟨h9, d9⟩
      by_cases hL64 : L < 64
      case neg =>
        rw [decide_eq_false hL64] at h9
        unfold UnlessR at h9
        subst h9
        unfold PanicAt
        have hst := Hst.out
        rw [if_pos (by omega)] at hst
        exact ⟨rfl, OutR.bad (FIN.out _ (KP8.out.trans (Keeps.of_below d9 fun k hk _ => hk))) hst⟩
      rw [decide_eq_true hL64] at h9
      unfold UnlessR at h9
      subst h9
      have hst := Hst.out
      rw [if_neg (by omega)] at hst
      have HStep := Lib.hid hst
      have KP9 := Lib.hid (KP8.out.trans (Keeps.of_below d9 fun k hk _ => hk))
      have RS9 := Lib.hid (RS8.out.below d9)
      have BN9 := Lib.hid (BN8.out.below d9 BN8.out.lt)
      have OW9 := Lib.hid (own_below OW8.out d9)
      clear hst Hst KP8 RS8 BN8 OW8 HRoom d9 x1 z1
      have hsz9 := KP9.out.size
      have x1 := BN9.out.cell 1
      simp at x1
      have z1 := BN9.out.frozen 1
      have hNw := BN9.out.lt
      clear hsz9
      have hsz9 := KP9.out.size
      clear x1 z1
      have x1 := BN9.out.cell 1
      simp at x1
      go_wp2_with (at_builtin; refine wpList_append_lies _ rfl _ _ 44 rfl w6.heap.size 9 i0 (.string ByteArray.empty) 1 16 Tryz.underlying44 hi hz0 hz1 hz2 rfl (by decide) _ L _ rfl (OW9.out.alloc _) ⟨w9.heap.size, 0, none⟩ 1 1 [.string s] rfl rfl (cell_one_new _ _ _) (fun x hx => by simp at hx; subst hx; rfl) (by decide) (by unfold maxLen; omega) (by omega) (by simp; omega) (w9.heap.size + 1) (by simp) ?_; intro g' cap' w10 hown' hgrow hat hglt; have BN10 := Lib.hid ((BN9.out.alloc (.cells #[.string s] 9)).off (Keeps.row hgrow) (ownOff (OW9.out.alloc (.cells #[.string s] 9))) (by decide)); have x10 := BN10.out.cell 1; simp at x10; have z10 := BN10.out.frozen 1; have Hown := Lib.hid hown'; have Hgrow := Lib.hid hgrow; clear hown' hgrow hat hglt)
      have KS : Keeps (fun k => (Value.slice A1 L c1).ownBlock = some k) (w9.alloc (.cells #[.string s] 9)) w10 := Keeps.row Hgrow.out
      have OS := ownOff (OW9.out.alloc (.cells #[.string s] 9))
      have RS10 := (RS9.out.alloc (.cells #[.string s] 9)).off KS OS (by decide) (by decide)
      have KP10 := Keeps.grown (KP9.out.alloc (.cells #[.string s] 9)) Hgrow.out fun g hg => Or.inr (OW9.out.lt g hg).1
      have KP11 := KP10.setCell (p := ⟨N, 1, none⟩) (Or.inl (Or.inr rfl)) (.slice (some ⟨g', 0, none⟩) (L + 1) cap')
      have KN := (Keeps.refl (fun x => x = N) w10).setCell (p := ⟨N, 1, none⟩) (Or.inl rfl) (.slice (some ⟨g', 0, none⟩) (L + 1) cap')
      have ON : Off (fun x => x = N) w10 [46] := fun k hk => ⟨_, _, _, by subst hk; exact BN10.out, by simp⟩
      have RS11 := RS10.off KN ON (by decide) (by decide)
      have OW11 := own_off Hown.out KN ON (by decide)
      have BN11 : Blk (w10.setCell ⟨N, 1, none⟩ (.slice (some ⟨g', 0, none⟩) (L + 1) cap')) N 46 #[.string nm, .slice (some ⟨g', 0, none⟩) (L + 1) cap'] := BN10.out.set_ 1 _
      refine ⟨⟨k + 1, acc ++ [s], false, _, rfl, by omega, by omega, Lib.hid (fun h => (by cases h)), Lib.hid (by rw [List.length_append, ← HL.out]; simp; omega), Lib.hid RS11, Lib.hid KP11, Lib.hid BN11, Lib.hid (by rw [List.length_append, ← HL.out, strCells_snoc]; exact OW11), HStep⟩, ?_⟩
      rw [RS11.next, Hnx.out]
      omega
    | false =>
      have hmore := Lib.hid hrs.out.more
      by_cases hlt0 : k < ws.length
      · rw [decide_eq_true hlt0] at hmore
        go_upto_region 7 with (go_at_call 94; (with_reducible refine hmore.out.mono ?_); rintro r w7 ⟨rfl, d7⟩)
        have RS := Lib.hid (hrs.out.below d7)
        have KP := Lib.hid (hkp.out.trans (Keeps.of_below d7 fun k hk _ => hk))
        have BN := Lib.hid (hbn.out.below d7 hbn.out.lt)
        have OW := Lib.hid (own_below hown.out d7)
        clear hrs hkp hbn hown hfa hmore d7
        have hname := RS.out.name hk
        unfold NameR at hname
        have HName := Lib.hid hname
        clear hname
        go_wp2_with fail
        go_at_call 92
        refine HName.out.mono ?_
        rintro r w8 ⟨⟨d8, e8⟩, h8⟩
        have KP8 := Lib.hid (KP.out.trans (d8.mono fun k _ hk => Or.inl hk))
        have BN8 := Lib.hid (BN.out.keep d8 hNb)
        have OW8 := Lib.hid (own_off OW.out d8 (T := [81]) (fun k hk => ⟨_, _, _, by subst hk; exact RS.out.blk, by simp⟩) (by decide))
        clear KP BN OW RS HName d8
        cases hsk : ws[k]? with
        | none =>
          have hge : ws.length ≤ k := by rw [List.getElem?_eq_none_iff] at hsk; exact hsk
          rw [hsk] at h8
          simp only at h8
          subst h8
          unfold PanicAt
          exact ⟨rfl, OutR.bad (FIN.out _ KP8.out) (absurd hlt0 (by omega))⟩
        | some s =>
        have hlt : k < ws.length := (List.getElem?_eq_some_iff.1 hsk).1
        rw [hsk] at h8
        simp only at h8
        have hst := hres.out
        rw [namesT_step hsk] at hst
        by_cases hl : labelB s = true
        case neg =>
          rw [if_neg hl] at h8
          subst h8
          unfold PanicAt
          rw [if_pos (by simpa using hl)] at hst
          exact ⟨rfl, OutR.bad (FIN.out _ KP8.out) hst⟩
        rw [if_pos hl] at h8
        subst h8
        rw [if_neg (by simp [hl])] at hst
        have Hst := Lib.hid hst
        have RS8 := Lib.hid e8
        clear hst hres hsk hl e8
        obtain ⟨A1, c1, rfl⟩ := own_shape OW8.out
        have x1 := BN8.out.cell 1
        simp at x1
        have z1 := BN8.out.frozen 1
        have hroom := RS8.out.room (by omega) (by omega) acc.length
        rw [atW_take hlt] at hroom
        have HRoom := Lib.hid hroom
        have hacc := hacc.out
        obtain ⟨L, hL⟩ : ∃ l, l = acc.length := ⟨_, rfl⟩
        rw [← hL] at x1 hacc HRoom BN8 OW8 Hst
        have HL := Lib.hid hL
        clear hroom hL
        go_wp2_with fail
        go_at_call 91
        refine HRoom.out.mono ?_
        rintro r w9 ⟨h9, d9⟩
        by_cases hL64 : L < 64
        case neg =>
          rw [decide_eq_false hL64] at h9
          unfold UnlessR at h9
          subst h9
          unfold PanicAt
          have hst := Hst.out
          rw [if_pos (by omega)] at hst
          exact ⟨rfl, OutR.bad (FIN.out _ (KP8.out.trans (Keeps.of_below d9 fun k hk _ => hk))) hst⟩
        rw [decide_eq_true hL64] at h9
        unfold UnlessR at h9
        subst h9
        have hst := Hst.out
        rw [if_neg (by omega)] at hst
        have HStep := Lib.hid hst
        have KP9 := Lib.hid (KP8.out.trans (Keeps.of_below d9 fun k hk _ => hk))
        have RS9 := Lib.hid (RS8.out.below d9)
        have BN9 := Lib.hid (BN8.out.below d9 BN8.out.lt)
        have OW9 := Lib.hid (own_below OW8.out d9)
        clear hst Hst KP8 RS8 BN8 OW8 HRoom d9 x1 z1
        have hsz9 := KP9.out.size
        have x1 := BN9.out.cell 1
        simp at x1
        have z1 := BN9.out.frozen 1
        have hNw := BN9.out.lt
        clear hsz9
        have hsz9 := KP9.out.size
        clear x1 z1
        have x1 := BN9.out.cell 1
        simp at x1
        go_wp2_with (at_builtin; refine wpList_append_lies _ rfl _ _ 44 rfl w6.heap.size 9 i0 (.string ByteArray.empty) 1 16 Tryz.underlying44 hi hz0 hz1 hz2 rfl (by decide) _ L _ rfl (OW9.out.alloc _) ⟨w9.heap.size, 0, none⟩ 1 1 [.string s] rfl rfl (cell_one_new _ _ _) (fun x hx => by simp at hx; subst hx; rfl) (by decide) (by unfold maxLen; omega) (by omega) (by simp; omega) (w9.heap.size + 1) (by simp) ?_; intro g' cap' w10 hown' hgrow hat hglt; have BN10 := Lib.hid ((BN9.out.alloc (.cells #[.string s] 9)).off (Keeps.row hgrow) (ownOff (OW9.out.alloc (.cells #[.string s] 9))) (by decide)); have x10 := BN10.out.cell 1; simp at x10; have z10 := BN10.out.frozen 1; have Hown := Lib.hid hown'; have Hgrow := Lib.hid hgrow; clear hown' hgrow hat hglt)
        have KS : Keeps (fun k => (Value.slice A1 L c1).ownBlock = some k) (w9.alloc (.cells #[.string s] 9)) w10 := Keeps.row Hgrow.out
        have OS := ownOff (OW9.out.alloc (.cells #[.string s] 9))
        have RS10 := (RS9.out.alloc (.cells #[.string s] 9)).off KS OS (by decide) (by decide)
        have KP10 := Keeps.grown (KP9.out.alloc (.cells #[.string s] 9)) Hgrow.out fun g hg => Or.inr (OW9.out.lt g hg).1
        have KP11 := KP10.setCell (p := ⟨N, 1, none⟩) (Or.inl (Or.inr rfl)) (.slice (some ⟨g', 0, none⟩) (L + 1) cap')
        have KN := (Keeps.refl (fun x => x = N) w10).setCell (p := ⟨N, 1, none⟩) (Or.inl rfl) (.slice (some ⟨g', 0, none⟩) (L + 1) cap')
        have ON : Off (fun x => x = N) w10 [46] := fun k hk => ⟨_, _, _, by subst hk; exact BN10.out, by simp⟩
        have RS11 := RS10.off KN ON (by decide) (by decide)
        have OW11 := own_off Hown.out KN ON (by decide)
        have BN11 : Blk (w10.setCell ⟨N, 1, none⟩ (.slice (some ⟨g', 0, none⟩) (L + 1) cap')) N 46 #[.string nm, .slice (some ⟨g', 0, none⟩) (L + 1) cap'] := BN10.out.set_ 1 _
        refine ⟨⟨k + 1, acc ++ [s], false, _, rfl, by omega, by omega, Lib.hid (fun h => (by cases h)), Lib.hid (by rw [List.length_append, ← HL.out]; simp; omega), Lib.hid RS11, Lib.hid KP11, Lib.hid BN11, Lib.hid (by rw [List.length_append, ← HL.out, strCells_snoc]; exact OW11), HStep⟩, ?_⟩
        rw [RS11.next, Hnx.out]
        omega
      · rw [decide_eq_false hlt0] at hmore
        go_upto_region 10 with (go_at_call 94; (with_reducible refine hmore.out.mono ?_); rintro r w7 ⟨rfl, d7⟩)
        have H7 := Lib.hid (hrs.out.below d7)
        have hk7 := hkp.out.trans (Keeps.of_below d7 fun k hk _ => hk)
        have KP7 := Lib.hid hk7
        have B7 := Lib.hid (hbn.out.below d7 hbn.out.lt)
        have OW7 := Lib.hid (own_below hown.out d7)
        have hO6 : Off (fun x => x = b ∨ x = N) w6 [81, 46] := fun k hk => by
          rcases hk with rfl | rfl
          · exact ⟨_, _, _, H6.out.blk, by simp⟩
          · exact ⟨_, _, _, HB6.out, by simp⟩
        have P7 := Lib.hid (HP6.out.off hk7 hO6 (by decide))
        have hAN := HAN.out
        have NM7 := Lib.hid (HN6.out.keep hk7 hO6 (by decide) fun g hg hs => by
          rcases hs with hs | hs
          · exact HAb.out g hg hs
          · have := hAN g hg
            omega)
        have hfin := hres.out
        rw [namesT_end (by omega)] at hfin
        have HFin := Lib.hid hfin
        obtain ⟨A1, c1, rfl⟩ := own_shape OW7.out
        have hsz7 : w6.heap.size ≤ w7.heap.size := hk7.size
        clear hrs hkp hbn hown hfa hmore d7 hk7 hfin hres hO6 hAN hlt0
        have x0 := (P7.out.cell q).trans hq
        have x1 := B7.out.cell 0
        have x2 := B7.out.cell 1
        simp at x1 x2
        have z0 := P7.out.frozen q
        obtain ⟨xs, hxs, hox, hnx⟩ := NM7.out
        obtain ⟨j0, hj, hj0, hj1, hj2⟩ := info_parts info_nm
        rw [← HT.out] at hox
        have hoxd : (w7.alloc (.cells #[.string nm, .slice A1 acc.length c1] 46)).drew.ownsRow base 46 2 (.slice A T cap) T (nmCells (xs.map nmPair)) := hox.alloc _
        have hnewd : ∀ j u, [Value.string nm, .slice A1 acc.length c1][j]? = some u → (w7.alloc (.cells #[.string nm, .slice A1 acc.length c1] 46)).drew.cell? ((⟨w7.heap.size, 0, none⟩ : Addr).add j) = some u := cells_new w7 [.string nm, .slice A1 acc.length c1] 46
        have hPd : Blk (w7.alloc (.cells #[.string nm, .slice A1 acc.length c1] 46)).drew P 26 pc := P7.out.alloc _
        have HOX := Lib.hid hoxd
        have HNew := Lib.hid hnewd
        have hNd : Blk (w7.alloc (.cells #[.string nm, .slice A1 acc.length c1] 46)).drew N 46 #[.string nm, .slice A1 acc.length c1] := B7.out.alloc _
        have y0 := (hPd.cell q).trans hq
        have y1 := hNd.cell 0
        have y2 := hNd.cell 1
        simp at y1 y2
        have hNA : some N ≠ (Value.slice A T cap).ownBlock := fun e => by have := HAN.out N e.symm; omega
        have HNA := Lib.hid hNA
        have HPd := Lib.hid hPd
        have HNd := Lib.hid hNd
        clear hox hoxd hnewd hPd hNd hNA
        refine wp_region_E 8 (fun w' => w'.cell? ⟨P, q, none⟩ = some (.slice A T cap) ∧ w'.cell? ⟨N, 0, none⟩ = some (.string nm) ∧ w'.cell? ⟨N, 1, none⟩ = some (.slice A1 acc.length c1)) (by kernel_rfl) (⟨x0, x1, x2⟩) (fun hHeld => ?_)
        refine tE 0 ?_; try simp only [Ap]
        refine tE 1 ?_; try simp only [Ap]
        refine tE 2 ?_; try simp only [Ap]
        refine tE 3 ?_; try simp only [Ap]
        refine tE 4 ?_; try simp only [Ap]
        refine wpAnyE_ready (rs := [5]) (by kernel_rfl) (by simp) ?_
        refine AllReadyE.cons rfl (fun K hK => ?_) AllReadyE.nil
        go_simp
        skip
        refine hK.out _ _ (fun _ => ⟨y0, y1, y2⟩) (fun hHeld => ?_)
        have hHeld := hHeld (by decide)
        clear hK K
        try simp only [Ap]
        refine wpAnyE_ready (rs := [6]) (by kernel_rfl) (by simp) ?_
        refine AllReadyE.cons rfl (fun K hK => ?_) AllReadyE.nil
        refine step_append_lies _ (by rfl) _ _ _ (by rfl) base 46 j0 (.agg #[.string ⟨#[]⟩, .slice none 0 0]) 2 40 Tryz.underlying22 hj hj0 hj1 hj2 rfl (by decide) _ T _ (by rfl) HOX.out ⟨w7.heap.size, 0, none⟩ 1 1 [.string nm, .slice A1 acc.length c1] (by rfl) rfl HNew.out (by intro u hu; simp at hu; rcases hu with rfl | rfl <;> rfl) (by decide) (by unfold maxLen; omega) (by omega) (by simp; omega) (w7.heap.size + 1) (by simp) ?_
        intro g' cap' w10 hown' hgrow hat hglt
        have BP := Lib.hid (HPd.out.off (Keeps.row hgrow) (ownOff HOX.out) (by decide))
        have BN10 := HNd.out.grown hgrow HNA.out
        have p10 := (BP.out.cell q).trans hq
        have z10 := BP.out.frozen q
        have n0 := BN10.cell 0
        have n1 := BN10.cell 1
        simp at n0 n1
        have Hown := Lib.hid hown'
        have Hgrow := Lib.hid hgrow
        have Hat := Lib.hid hat
        clear hown' hgrow hat hglt BN10
        refine hK.out _ _ (fun _ => ⟨p10, n0, n1⟩) (fun hHeld => ?_)
        have hHeld := hHeld (by decide)
        clear hK K
        try simp only [Ap]
        refine tE 7 ?_; try simp only [Ap]
        refine wpAnyE_ready (rs := [8]) (by kernel_rfl) (by simp) ?_
        refine AllReadyE.cons rfl (fun K hK => ?_) AllReadyE.nil
        go_simp
        refine hK.out _ _ (fun h => absurd rfl h) (fun _ => ?_)
        clear hK K hHeld
        try simp only [Ap]
        refine wpAnyE_done (by kernel_rfl) ?_
        go_wp2_with fail
        have K1 : Keeps (fun k => k = b ∨ k = P ∨ (Value.slice A T cap).ownBlock = some k) w (w7.alloc (.cells #[.string nm, .slice A1 acc.length c1] 46)).drew := (((FIN.out _ KP7.out).mono fun k _ hk => Or.inl hk).alloc _).drew
        have K2 := (Keeps.grown K1 Hgrow.out fun k hk => Or.inl (Or.inr (Or.inr hk))).setCell (p := ⟨P, q, none⟩) (Or.inl (Or.inr (Or.inl rfl))) (.slice (some ⟨g', 0, none⟩) (T + 1) cap')
        have KS := Keeps.row Hgrow.out
        have OS := ownOff HOX.out
        have KQ := (Keeps.refl (fun x => x = P) w10).setCell (p := ⟨P, q, none⟩) (Or.inl rfl) (.slice (some ⟨g', 0, none⟩) (T + 1) cap')
        have OQ : Off (fun x => x = P) w10 [26] := fun k hk => ⟨_, _, _, by subst hk; exact BP.out, by simp⟩
        have R1 : Rs (w7.alloc (.cells #[.string nm, .slice A1 acc.length c1] 46)).drew b P k n lv uv ws := ⟨(H7.out.alloc _).blk, (H7.out.alloc _).row, H7.out.ne, H7.out.len, H7.out.sizes⟩
        have R2 := (R1.off KS OS (by decide) (by decide)).off KQ OQ (by decide) (by decide)
        have B2 : Blk (w10.setCell ⟨P, q, none⟩ (.slice (some ⟨g', 0, none⟩) (T + 1) cap')) P 26 (pc.setIfInBounds q (.slice (some ⟨g', 0, none⟩) (T + 1) cap')) := BP.out.set_ q _
        have hstr : ∀ (u : Value) (m : Nat) (ys : List Value), w7.ownsRow base 9 1 u m ys → (w10.setCell ⟨P, q, none⟩ (.slice (some ⟨g', 0, none⟩) (T + 1) cap')).ownsRow base 9 1 u m ys := fun u m ys hu =>
          own_off (own_off (show (w7.alloc (.cells #[.string nm, .slice A1 acc.length c1] 46)).drew.ownsRow base 9 1 u m ys from hu.alloc _) KS OS (by decide)) KQ OQ (by decide)
        refine ⟨rfl, _, results_none rfl _ _ _, OutR.good HFin.out K2 ⟨rfl, k, _, R2, B2, ⟨xs ++ [(⟨nm, acc⟩, .slice A1 acc.length c1)], by simp [hxs], ?_, ?_⟩, ?_⟩⟩
        · rw [List.length_append, ← HT.out, List.map_append, show List.map nmPair [((⟨nm, acc⟩ : Nm), Value.slice A1 acc.length c1)] = [(nm, .slice A1 acc.length c1)] from rfl, nmCells_snoc]
          exact own_off Hown.out KQ OQ (by decide)
        · intro x hx
          rcases List.mem_append.1 hx with hx | hx
          · exact hstr _ _ _ (hnx x hx)
          · rw [List.mem_singleton.1 hx]
            exact hstr _ _ _ (OW7.out.mono (by omega))
        · intro g hg
          have hgg : some g' = some g := hg
          injection hgg with hgg
          rcases Hat.out with h | h
          · exact Or.inl (hgg ▸ h)
          · have hs := (FIN.out _ KP7.out).size
            exact Or.inr (by omega)
end Go.Proofs.YtbiglifngfgffaaGreatDoor
