/- Joined out of: RuC RuD SpA. -/
import Derived.Test.YthglckoikjfjkaaGreatDoorSam
import Derived.Test.YthglckoikjfjkaaGreatDoorSal
import Derived.Test.YthglckoikjfjkaaGreatDoorSav
import Derived.Test.YthglckoikjfjkaaGreatDoorSar
set_option linter.unusedVariables false
set_option linter.unusedSimpArgs false

/- Rules: what was made ready says what the policy says: the plain law. -/
namespace Go.Proofs.YthglckoikjfjkaaGreatDoor

structure AllOk (p : Po) (l : List Pe) : Prop where
  hosts : ∀ h ∈ p.hosts, h.net.Ok ∧ pmay h.net = true
  peers : ∀ x ∈ l, ∀ b ∈ x.addrs, b.Ok
def selOk (s : Sel) : Prop := s.kind = 6 → s.net.Ok ∧ pmay s.net = true
theorem find_mem {α : Type} {q : α → Bool} {l : List α} {x : α} (h : l.find? q = some x) : x ∈ l := List.mem_of_find?_eq_some h
theorem any4 : Sp.Ok (⟨false, 0, 0⟩, ⟨false, 0, 4294967295⟩) := ⟨⟨by decide, by decide⟩, ⟨by decide, by decide⟩⟩
theorem any6 : Sp.Ok (⟨true, 0, 0⟩, ⟨true, 18446744073709551615, 18446744073709551615⟩) := ⟨⟨by decide, by decide⟩, ⟨by decide, by decide⟩⟩
theorem spans_ok {p : Po} {l : List Pe} (ok : AllOk p l) {s : Sel} (hs : selOk s) : ∀ x ∈ spansL p l s, x.Ok := by
  intro x hx
  unfold spansL at hx
  split at hx
  · rcases List.mem_cons.1 hx with rfl | hx
    · exact any4
    · rw [List.mem_singleton.1 hx]; exact any6
  · split at hx
    · split at hx
      · next h hh =>
        rw [List.mem_singleton.1 hx]
        obtain ⟨o1, o2⟩ := ok.hosts h (find_mem hh)
        exact ⟨o1.a, (whole_key o1 o2).1⟩
      · cases hx
    · split at hx
      · next hk =>
        rw [List.mem_singleton.1 hx]
        obtain ⟨o1, o2⟩ := hs hk
        exact ⟨o1.a, (whole_key o1 o2).1⟩
      · obtain ⟨y, hy, hx⟩ := List.mem_flatMap.1 hx
        split at hx
        · obtain ⟨b, hb, rfl⟩ := List.mem_map.1 hx
          exact ⟨ok.peers y hy b hb, ok.peers y hy b hb⟩
        · cases hx
theorem any_congr {α : Type} {l : List α} {q r : α → Bool} (h : ∀ x ∈ l, q x = r x) : l.any q = l.any r := by
  induction l with
  | nil => rfl
  | cons x t ih => rw [List.any_cons, List.any_cons, h x (List.mem_cons_self ..), ih (fun z hz => h z (List.mem_cons_of_mem _ hz))]
theorem spans_any {p : Po} {l : List Pe} (ok : AllOk p l) {s : Sel} (hs : selOk s) {a : Ad} (oa : a.Ok) (hm : a.may = true) : (spansL p l s).any (inSp a) = hasP p l s a := by
  unfold spansL hasP
  rw [hm, Bool.true_and]
  split
  · rw [List.any_cons, List.any_cons, List.any_nil, Bool.or_false, Bool.or_eq_true, inSp_iff any4 oa (by decide), inSp_iff any6 oa (by decide)]
    have h1 := oa.hi
    have h2 := oa.lo
    obtain ⟨v, hi, lo⟩ := a
    cases v with
    | false =>
      obtain ⟨e1, e2⟩ := may4 hm rfl
      simp only at e1 e2
      subst e1
      refine Or.inl ⟨rfl, ?_, ?_⟩ <;> unfold Ad.key <;> simp <;> omega
    | true =>
      simp only at h1 h2
      refine Or.inr ⟨rfl, ?_, ?_⟩ <;> unfold Ad.key <;> simp <;> omega
  · split
    · cases hh : findH p s.name with
      | none => rfl
      | some h =>
        obtain ⟨o1, o2⟩ := ok.hosts h (find_mem hh)
        rw [List.any_cons, List.any_nil, Bool.or_false, whole_in o1 oa o2 hm]
    · split
      · next hk =>
        obtain ⟨o1, o2⟩ := hs hk
        rw [List.any_cons, List.any_nil, Bool.or_false, whole_in o1 oa o2 hm]
      · rw [List.any_flatMap]
        refine any_congr fun x hx => ?_
        cases picksP p s x with
        | false => simp
        | true =>
          simp only [if_true, List.any_map, Bool.true_and]
          exact any_congr fun b hb => one_in oa (ok.peers x hx b hb) hm
theorem spans_in {p : Po} {l : List Pe} (ok : AllOk p l) {ss : List Sel} (hs : ∀ s ∈ ss, selOk s) {a : Ad} (oa : a.Ok) : inP (ss.flatMap (spansL p l)) a = someP p l ss a := by
  unfold inP someP
  cases hm : a.may with
  | false =>
    rw [Bool.false_and]
    symm
    rw [List.any_eq_false]
    intro s _
    unfold hasP
    rw [hm]
    simp
  | true =>
    rw [Bool.true_and, List.any_flatMap]
    exact any_congr fun s h => spans_any ok (hs s h) oa hm

/- The rules of a node. -/
structure Rl where
  protos : List Nat
  src : List Sp
  dst : List Sp
  ports : List (Nat × Nat)
def hitR (f : Fw) (r : Rl) : Bool := byP r.protos r.ports f && (inP r.src f.src && inP r.dst f.dst)
def dstL (p : Po) (l : List Pe) (own : List Ad) (a : Ac) : List Ad := own.filter fun x => someP p l a.dst x
structure RuleFor (p : Po) (l : List Pe) (own : List Ad) (a : Ac) (r : Rl) : Prop where
  protos : r.protos = protosR a.protos
  ports : ∀ f, r.ports.any (inPort f) = a.ports.any (inPort f)
  none : r.ports = [] ↔ a.ports = []
  src : ∀ x : Ad, x.Ok → inP r.src x = inP (a.src.flatMap (spansL p l)) x
  dst : ∀ x : Ad, x.Ok → inP r.dst x = inP ((dstL p l own a).map fun b => (b, b)) x
inductive Made (p : Po) (l : List Pe) (own : List Ad) : List Ac → List Rl → Prop
  | nil : Made p l own [] []
  | skip {acs : List Ac} {rs : List Rl} {a : Ac} : Made p l own acs rs → dstL p l own a = [] → Made p l own (acs ++ [a]) rs
  | more {acs : List Ac} {rs : List Rl} {a : Ac} {r : Rl} : Made p l own acs rs → dstL p l own a ≠ [] → RuleFor p l own a r → Made p l own (acs ++ [a]) (rs ++ [r])
theorem dst_some {p : Po} {l : List Pe} {own : List Ad} {a : Ac} {f : Fw} (hd : f.dst ∈ own) (od : f.dst.Ok) (os : ∀ x ∈ own, Ad.Ok x) (hm : f.dst.may = true) : inP ((dstL p l own a).map fun b => (b, b)) f.dst = someP p l a.dst f.dst := by
  unfold inP
  rw [hm, Bool.true_and, List.any_map]
  have e : ((dstL p l own a).any fun b => decide (b = f.dst)) = someP p l a.dst f.dst := by
    rw [Bool.eq_iff_iff, List.any_eq_true]
    constructor
    · rintro ⟨b, hb, e⟩
      rw [decide_eq_true_eq] at e
      subst e
      exact (List.mem_filter.1 hb).2
    · intro h
      exact ⟨f.dst, List.mem_filter.2 ⟨hd, h⟩, by simp⟩
  rw [← e]
  exact any_congr fun b hb => one_in od (os b (List.mem_filter.1 hb).1) hm
theorem rule_hit {p : Po} {l : List Pe} {own : List Ad} {a : Ac} {r : Rl} {f : Fw} (ok : AllOk p l) (h : RuleFor p l own a r) (hs : ∀ s ∈ a.src, selOk s) (of : f.src.Ok) (hd : f.dst ∈ own) (od : f.dst.Ok) (os : ∀ x ∈ own, Ad.Ok x) (hm : f.dst.may = true) :
    hitR f r = acP' p l f a := by
  unfold hitR acP' byP
  rw [h.protos, h.ports, h.src _ of, h.dst _ od, spans_in ok hs of, dst_some hd od os hm]
  have : r.ports.isEmpty = a.ports.isEmpty := by
    rw [Bool.eq_iff_iff, List.isEmpty_iff, List.isEmpty_iff]
    exact h.none
  rw [this]
theorem made_hit {p : Po} {l : List Pe} {own : List Ad} {acs : List Ac} {rs : List Rl} {f : Fw} (ok : AllOk p l) (h : Made p l own acs rs) (hs : ∀ a ∈ acs, ∀ s ∈ a.src, selOk s) (of : f.src.Ok) (hd : f.dst ∈ own) (od : f.dst.Ok) (os : ∀ x ∈ own, Ad.Ok x) (hm : f.dst.may = true) :
    rs.any (hitR f) = acs.any (acP' p l f) := by
  induction h with
  | nil => rfl
  | @skip acs rs a _ he ih =>
    rw [ih (fun b hb => hs b (List.mem_append_left _ hb)), List.any_append, List.any_cons, List.any_nil, Bool.or_false]
    have e := dst_some (a := a) (p := p) (l := l) hd od os hm
    rw [he] at e
    have : acP' p l f a = false := by
      unfold acP'
      rw [← e]
      unfold inP
      simp
    rw [this, Bool.or_false]
  | @more acs rs a r _ _ hr ih =>
    rw [List.any_append, List.any_append, ih (fun b hb => hs b (List.mem_append_left _ hb)), List.any_cons, List.any_nil, List.any_cons, List.any_nil, rule_hit ok hr (hs a (List.mem_append_right _ (List.mem_singleton_self a))) of hd od os hm]
end Go.Proofs.YthglckoikjfjkaaGreatDoor

/- Rules: what may be is what the plain law asks; ranges step by step. -/
namespace Go.Proofs.YthglckoikjfjkaaGreatDoor

theorem sel_ok {w : ByteArray} {s : Sel} (h : selP w = some s) : selOk s := by
  intro hk
  cases selP_is h with
  | star h1 h2 => subst h2; cases hk
  | named k nm h0 h1 h2 h3 h4 => subst h4; exact absurd hk h1
  | net k t n h0 h1 h2 h3 => subst h3; exact (preadL_some h2).2
theorem all_ok {p : Po} (hh : ∀ h ∈ p.hosts, h.net.Ok) (hm : mayP p = true) {l : List Pe} (hl : ∀ x ∈ l, ∀ b ∈ x.addrs, b.Ok) : AllOk p l := ⟨fun h hx => ⟨hh h hx, ((mayP_ok hm).2.2.2.2.1 h hx).2⟩, hl⟩
theorem may_sels {p : Po} (hm : mayP p = true) {a : Ac} (ha : a ∈ p.acls) : (∀ s ∈ a.src, selOk s) ∧ (∀ s ∈ a.dst, selOk s) := by
  have h := (mayP_ok hm).2.2.2.2.2.1 a ha
  unfold mayAc at h
  simp only [Bool.and_eq_true] at h
  exact ⟨fun s hs => sel_ok ((maySels_ok h.1.2).1 s hs).1, fun s hs => sel_ok ((maySels_ok h.2).1 s hs).1⟩
theorem okP_may {p : Po} (h : okP p = true) : mayP p = true := by
  unfold okP at h
  simp only [Bool.and_eq_true] at h
  exact h.1

section
variable {α β : Type} (f : α → List β)
def flatO (l : List α) (k : Nat) : List β := (l.take k).flatMap f
theorem flatO_zero (l : List α) : flatO f l 0 = [] := rfl
theorem flatO_succ {l : List α} {k : Nat} {x : α} (h : l[k]? = some x) : flatO f l (k + 1) = flatO f l k ++ f x := by
  have hk := (List.getElem?_eq_some_iff.1 h).1
  unfold flatO
  rw [List.take_succ_eq_append_getElem hk, List.flatMap_append, (List.getElem?_eq_some_iff.1 h).2]
  simp
theorem flatO_end (l : List α) : flatO f l l.length = l.flatMap f := by
  unfold flatO
  rw [List.take_of_length_le (Nat.le_refl _)]
theorem flatO_len (l : List α) (k : Nat) : (flatO f l k).length ≤ (l.flatMap f).length := by
  unfold flatO
  conv => rhs; rw [← List.take_append_drop k l, List.flatMap_append, List.length_append]
  omega
end
def twice_ (b : Ad) : Sp := (b, b)
/- The ranges of one node that a selector means. -/
def pairsL (p : Po) (s : Sel) (x : Pe) : List Sp := if picksP p s x then x.addrs.map twice_ else []
theorem spansL_other {p : Po} {l : List Pe} {s : Sel} (h1 : s.kind ≠ 1) (h5 : s.kind ≠ 5) (h6 : s.kind ≠ 6) : spansL p l s = l.flatMap (pairsL p s) := by
  unfold spansL
  rw [if_neg h1, if_neg h5, if_neg h6]
  rfl
end Go.Proofs.YthglckoikjfjkaaGreatDoor

/- Rules: all addresses that selectors have (spans): the walk. (printed by spans.py) -/
namespace Go.Proofs.YthglckoikjfjkaaGreatDoor
open Go.RowKit
attribute [local go_sem ↓] Go.wp_at_zero Go.wp_at_succ

theorem blk_row {w w' : World} {base g size n : Nat} {t e : TypeId} {cs : Array Value} {v : Value} {xs : List Value} (h : Blk w g t cs) (ho : w.ownsRow base e size v n xs) (hg : w.grownBy w' v.ownBlock) (hne : t ≠ e) : Blk w' g t cs :=
  Blk.off h (Keeps.row hg) (ownOff ho) (fun hm => hne (List.mem_singleton.1 hm))
theorem picks_row {w0 W W' : World} {p : Po} {s : Sel} {v u : Value} {base n : Nat} {xs : List Value} (h : PicksMem w0 W p s v) (ho : W.ownsRow base 73 6 u n xs) (hg : W.grownBy W' u.ownBlock) : PicksMem w0 W' p s v :=
  h.keep (Keeps.row hg) fun g t cs hb ht hs => by
    obtain ⟨cur, e, fz, hh, he⟩ := ownOff ho g hs
    unfold Blk at hb
    rw [hb] at hh
    injection hh with hh
    injection hh with _ h2 _
    have he' := List.mem_singleton.1 he
    rw [he'] at h2
    rw [h2] at ht
    exact absurd ht (by decide)
/- What lies in memory between the steps: the row of ranges, the policy; the test of nodes. -/
structure SpO (w0 wr : World) (P : Nat) (cs : Array Value) (v : Value) (L : List Sp) : Prop where
  own : wr.ownsRow w0.heap.size 73 6 v L.length (spCells L)
  below : Below w0.heap.size w0 wr
  pol : Blk wr P 26 cs
structure SpIn (w0 wr : World) (P : Nat) (cs : Array Value) (p : Po) (s : Sel) (mv v : Value) (L : List Sp) : Prop where
  o : SpO w0 wr P cs v L
  mem : PicksMem w0 wr p s mv
theorem SpO.step {w0 wr w' : World} {P : Nat} {cs : Array Value} {v : Value} {L : List Sp} (h : SpO w0 wr P cs v L) (hb : Below wr.heap.size wr w') : SpO w0 w' P cs v L :=
  ⟨own_below h.own hb, h.below.trans (hb.mono h.below.size), h.pol.below hb h.pol.lt⟩
theorem SpIn.step {w0 wr w' : World} {P : Nat} {cs : Array Value} {p : Po} {s : Sel} {mv v : Value} {L : List Sp} (h : SpIn w0 wr P cs p s mv v L) (hb : Below wr.heap.size wr w') : SpIn w0 w' P cs p s mv v L :=
  ⟨h.o.step hb, h.mem.below hb⟩
theorem spCells_append (L M : List Sp) : spCells (L ++ M) = spCells L ++ spCells M := by simp [spCells]
theorem SpO.more {w0 wr w' : World} {P : Nat} {cs : Array Value} {v v' : Value} {L M : List Sp} (h : SpO w0 wr P cs v L) (o : Obj) (ho : w'.ownsRow w0.heap.size 73 6 v' (L.length + M.length) (spCells L ++ spCells M)) (hg : (wr.alloc o).grownBy w' v.ownBlock) : SpO w0 w' P cs v' (L ++ M) := by
  have h2 := h.step (boxed wr o)
  exact ⟨by rw [List.length_append, spCells_append]; exact ho, h2.below.grown hg h2.below.size (fun q hq => (h2.own.lt q hq).1), blk_row h2.pol h2.own hg (by decide)⟩
theorem SpIn.more {w0 wr w' : World} {P : Nat} {cs : Array Value} {p : Po} {s : Sel} {mv v v' : Value} {L M : List Sp} (h : SpIn w0 wr P cs p s mv v L) (o : Obj) (ho : w'.ownsRow w0.heap.size 73 6 v' (L.length + M.length) (spCells L ++ spCells M)) (hg : (wr.alloc o).grownBy w' v.ownBlock) : SpIn w0 w' P cs p s mv v' (L ++ M) :=
  ⟨h.o.more o ho hg, picks_row (h.mem.below (boxed wr o)) (own_below h.o.own (boxed wr o)) hg⟩
def partsL (p : Po) (s : Sel) (x : Pe) (j : Nat) : List Sp := if picksP p s x then (x.addrs.take j).map twice_ else []
theorem parts_end (p : Po) (s : Sel) (x : Pe) : partsL p s x x.addrs.length = pairsL p s x := by
  unfold partsL pairsL
  rw [List.take_of_length_le (Nat.le_refl _)]
theorem parts_zero (p : Po) (s : Sel) (x : Pe) : partsL p s x 0 = [] := by
  unfold partsL
  split <;> rfl
theorem parts_yes {p : Po} {s : Sel} {x : Pe} {j : Nat} {a : Ad} (h : picksP p s x = true) (ha : x.addrs[j]? = some a) : partsL p s x (j + 1) = partsL p s x j ++ [(a, a)] := by
  have hk := (List.getElem?_eq_some_iff.1 ha).1
  unfold partsL
  rw [if_pos h, if_pos h, List.take_succ_eq_append_getElem hk, List.map_append, (List.getElem?_eq_some_iff.1 ha).2]
  rfl
theorem parts_no {p : Po} {s : Sel} {x : Pe} (h : picksP p s x = false) (j : Nat) : partsL p s x (j + 1) = partsL p s x j := by
  unfold partsL
  rw [h]
  rfl
theorem parts_len (p : Po) (s : Sel) (x : Pe) (j : Nat) : (partsL p s x j).length ≤ (pairsL p s x).length := by
  unfold partsL pairsL
  split
  · rw [List.length_map, List.length_map, List.length_take]; omega
  · exact Nat.le_refl _
theorem pe_at {l : List PeV} {k : Nat} {X : PeV} (h : l[k]? = some X) : (peCells l)[k * 8]? = some (.string X.key) ∧ (peCells l)[k * 8 + 1]? = some (.string X.disco) ∧ (peCells l)[k * 8 + 2]? = some (.string X.x.user) ∧ (peCells l)[k * 8 + 3]? = some X.tg ∧ (peCells l)[k * 8 + 4]? = some X.ad ∧ (peCells l)[k * 8 + 5]? = some (.int .u64 (X.exp : Int)) ∧ (peCells l)[k * 8 + 6]? = some (.int .u8 (X.relay : Int)) ∧ (peCells l)[k * 8 + 7]? = some X.en :=
  ⟨flat_at _ 8 pe_len h (r := 0) rfl, flat_at _ 8 pe_len h (r := 1) rfl, flat_at _ 8 pe_len h (r := 2) rfl, flat_at _ 8 pe_len h (r := 3) rfl, flat_at _ 8 pe_len h (r := 4) rfl, flat_at _ 8 pe_len h (r := 5) rfl, flat_at _ 8 pe_len h (r := 6) rfl, flat_at _ 8 pe_len h (r := 7) rfl⟩

theorem pe_open {w : World} {X : PeV} (h : PeMem w X) : ∃ (key disco us : ByteArray) (A1 : Option Addr) (n1 c1 : Nat) (A2 : Option Addr) (c2 ex relay : Nat) (A3 : Option Addr) (n3 c3 : Nat), X.cells = #[.string key, .string disco, .string us, .slice A1 n1 c1, .slice A2 X.x.addrs.length c2, .int .u64 (ex : Int), .int .u8 (relay : Int), .slice A3 n3 c3] ∧ X.ad = .slice A2 X.x.addrs.length c2 := by
  obtain ⟨A1, c1, e1, _, _⟩ := h.tags
  obtain ⟨A2, c2, e2, _, _⟩ := h.addrs
  obtain ⟨A3, n3, c3, e3⟩ := h.ends
  exact ⟨X.key, X.disco, X.x.user, A1, _, c1, A2, c2, X.exp, X.relay, A3, n3, c3, by unfold PeV.cells; rw [e1, e2, e3], e2⟩
theorem pe_cell {l : List PeV} {k : Nat} {X : PeV} (h : l[k]? = some X) {r : Nat} {u : Value} {vs : Array Value} (hc : X.cells = vs) (hu : vs.toList[r]? = some u) : (peCells l)[k * 8 + r]? = some u :=
  flat_at (fun X : PeV => X.cells.toList) 8 pe_len h (by rw [hc]; exact hu)
theorem SpIn.call {w0 wr : World} {P : Nat} {cs : Array Value} {p : Po} {s : Sel} {fv : Nat} {lb : Array Value} {v : Value} {L : List Sp} (h : SpIn w0 wr P cs p s (.func (.func fv) #[] lb) v L) {X : PeV} (hX : PeMem w0 X) {vs : Array Value} (hc : X.cells = vs) {x : Pe} (hx : x = X.x) : Calls Tryz.prog fv (#[.agg vs] ++ lb) wr (Got (.bool (picksP p s x)) wr) := by
  obtain ⟨f', lb', e, eg', hpc⟩ := h.mem.at_ h.o.below
  injection e with e1 _ e2
  injection e1 with e1
  subst e1 e2 hc hx
  exact hpc wr (Below.refl _ _) X (hX.below h.o.below)
theorem mid_len {p : Po} {s : Sel} {l : List Pe} {L0 : List Sp} (h : L0.length + (l.flatMap (pairsL p s)).length ≤ 2000000) {i : Nat} {x : Pe} (hx : l[i]? = some x) (j : Nat) : (L0 ++ flatO (pairsL p s) l i ++ partsL p s x j).length ≤ 2000000 := by
  have h1 := flatO_len (pairsL p s) l (i + 1)
  rw [flatO_succ _ hx, List.length_append] at h1
  have h2 := parts_len p s x j
  rw [List.length_append, List.length_append]
  omega
theorem mid_end {p : Po} {s : Sel} {l : List Pe} (L0 : List Sp) {i : Nat} {x : Pe} (hx : l[i]? = some x) : L0 ++ flatO (pairsL p s) l i ++ partsL p s x x.addrs.length = L0 ++ flatO (pairsL p s) l (i + 1) := by
  rw [flatO_succ _ hx, parts_end, List.append_assoc]

set_option maxHeartbeats 32000000 in
set_option maxRecDepth 100000 in
theorem rspans_any {w : World} (env : Env w) {V : PoV} {p : Po} (h : PoRd w V p) (fit : PoFit p) {pv : Value} {l : List Pe} (hp : PeRd w pv l) (hpl : l.length ≤ 4000000) (ao : AllOk p l) {sv : Value} {ss : List Sel} (hs : RowR w sv ss.length 6 (selCells ss)) (hsl : ss.length ≤ 4000000) (so : ∀ s ∈ ss, selOk s) (hL : (ss.flatMap (spansL p l)).length ≤ 2000000) :
    Calls Tryz.prog 17 #[.agg #[V.g, V.t, V.h, V.a], pv, sv] w (NormR (ss.flatMap (spansL p l)) w) := by
  have hwa : ∀ u, Calls Tryz.prog 37 #[.agg #[.bool false, .int .u64 0, .int .u64 0, .int .u8 0]] u (Got (.agg #[.bool false, .int .u64 0, .int .u64 0, .bool false, .int .u64 0, .int .u64 4294967295]) u) := fun u => wholePf_any ⟨⟨false, 0, 0⟩, 0⟩ ⟨⟨by decide, by decide⟩, by decide⟩ (by decide) u
  have hwb : ∀ u, Calls Tryz.prog 37 #[.agg #[.bool true, .int .u64 0, .int .u64 0, .int .u8 0]] u (Got (.agg #[.bool true, .int .u64 0, .int .u64 0, .bool true, .int .u64 18446744073709551615, .int .u64 18446744073709551615]) u) := fun u => wholePf_any ⟨⟨true, 0, 0⟩, 0⟩ ⟨⟨by decide, by decide⟩, by decide⟩ (by decide) u
  have hwh := fun (n : Pf) (o : n.Ok) (m : pmay n = true) u => wholePf_any n o m u
  have hhost := fun u (hu : Below w.heap.size w u) (nm : ByteArray) => host_any (h.below hu) (by have := fit.hl; omega) nm
  have hpk := fun u (hu : Below w.heap.size w u) s => picks_any h hu (by have := fit.gl; omega) (fun n hn => by have := (fit.g n hn).len; omega) s
  have hnorm := fun u (hu : Below w.heap.size w u) v' (hr : RowR u v' (ss.flatMap (spansL p l)).length 6 (spCells (ss.flatMap (spansL p l)))) => norm_any (env.below hu) _ hr hL (fun x hx => by
    obtain ⟨s, hs, hx⟩ := List.mem_flatMap.1 hx
    exact spans_ok ao (so s hs) x hx)
  have hhs : ∀ s x, findH p s = some x → x.net.Ok ∧ pmay x.net = true := fun s x hx => ao.hosts x (findH_mem hx)
  have hso : ∀ s ∈ ss, s.kind = 6 → s.net.Ok ∧ pmay s.net = true := so
  obtain ⟨i0, hi, hz0, hz1, hz2⟩ := info_parts info_sp
  obtain ⟨xs, hxs, hpr, hpm⟩ := hp
  have hxl : xs.length = l.length := by rw [← hxs, List.length_map]
  obtain ⟨Ag, At, Ah, Aa, cg, ct, ch, ca, rfl⟩ := copied h
  obtain ⟨Ap, cp, rfl⟩ := hpr.shape
  obtain ⟨As, cs, rfl⟩ := hs.shape
  simp only at hhost hpk
  have hend := flatO_end (spansL p l) ss
  have hstep := fun k s (hk : ss[k]? = some s) => flatO_succ (spansL p l) hk
  have hlen0 := fun k => Nat.le_trans (flatO_len (spansL p l) ss k) hL
  generalize p.groups.length = NG at *
  generalize p.tags.length = NT at *
  generalize p.hosts.length = NH at *
  generalize p.acls.length = NA at *
  obtain ⟨NS, hNS⟩ : ∃ n, n = ss.length := ⟨_, rfl⟩
  obtain ⟨NP, hNP⟩ : ∃ n, n = xs.length := ⟨_, rfl⟩
  rw [← hNS] at hs hsl hend ⊢
  rw [← hNP] at hpr hxl ⊢
  have hpl' : NP ≤ 4000000 := by omega
  have HNS := Lib.hid hNS
  have HNP := Lib.hid hNP
  have HXL := Lib.hid hxl
  have HWa := Lib.hid hwa
  have HWb := Lib.hid hwb
  have HWh := Lib.hid hwh
  have HHost := Lib.hid hhost
  have HPk := Lib.hid hpk
  have HNorm := Lib.hid hnorm
  have HHs := Lib.hid hhs
  have HSo := Lib.hid hso
  have HXs := Lib.hid hxs
  have HPr := Lib.hid hpr
  have HPm := Lib.hid hpm
  have HSr := Lib.hid hs
  have HEnd := Lib.hid hend
  have HStep := Lib.hid hstep
  have HLen := Lib.hid hlen0
  clear hNS hNP hxl hwa hwb hwh hhost hpk hnorm hhs hso hxs hpr hpm hs hend hstep hlen0 h fit ao so env hpl hL
  go_enter Tryz.func17, Tryz.ntmps17
  go_upto_region 2 with fail
  have HO := Lib.hid (SpO.mk (w0 := w) (v := .slice none 0 0) (L := []) (World.ownsRow_nil _ _ _ _) (boxed w (.cells #[.slice Ag NG cg, .slice At NT ct, .slice Ah NH ch, .slice Aa NA ca] 26)) (Blk.new w 26 #[.slice Ag NG cg, .slice At NT ct, .slice Ah NH ch, .slice Aa NA ca]))
  generalize w.alloc (.cells #[.slice Ag NG cg, .slice At NT ct, .slice Ah NH ch, .slice Aa NA ca] 26) = w1 at HO ⊢
  generalize w.heap.size = P at HO ⊢
  go_wp2_with fail
  go_loopw [7, 19] (fun v7 v19 wr => ∃ (k : Nat) (A : Option Addr) (c : Nat), k ≤ NS ∧ v19 = .int .i64 (k : Int) ∧ v7 = .slice A (flatO (spansL p l) ss k).length c ∧ RowKit.Hid (SpO w wr P #[.slice Ag NG cg, .slice At NT ct, .slice Ah NH ch, .slice Aa NA ca] (.slice A (flatO (spansL p l) ss k).length c) (flatO (spansL p l) ss k))) (fun _ v19 _ => NS - (intOf v19).toNat)
  case atStart => exact ⟨0, none, 0, Nat.zero_le _, rfl, rfl, HO⟩
  case round =>
    clear HO
    obtain ⟨k, A, c, hk, rfl, rfl, hst⟩ := hrel
    obtain ⟨wo, rfl⟩ : ∃ wo : World, wo = wr := ⟨_, rfl⟩
    by_cases hlt : k < NS
    case neg =>
      obtain rfl : NS = k := by omega
      rw [HEnd.out] at hst ⊢
      have hr := RowR.of_own hst.out.own
      have HCall := Lib.hid (HNorm.out _ hst.out.below _ hr)
      have HBl := Lib.hid hst.out.below
      clear hr hst
      obtain ⟨LL, hLL⟩ : ∃ LL, LL = ss.flatMap (spansL p l) := ⟨_, rfl⟩
      rw [← hLL] at HCall ⊢
      have HLL := Lib.hid hLL
      clear hLL
      go_wp2_with (go_at_call 18; (with_reducible refine HCall.out.mono ?_); rintro r w9 ⟨⟨S, v', rfl, hp, hs, hr⟩, d9⟩; (obtain ⟨A9, c9, rfl⟩ := own_shape hr); have HR9 := Lib.hid (World.ownsRow.mono hr HBl.out.size); have HP9 := Lib.hid hp; have HS9 := Lib.hid hs; have HB9 := Lib.hid (after HBl.out d9); clear hr hp hs d9)
      go_ret
      exact ⟨⟨S, _, rfl, by rw [← HLL.out]; exact HP9.out, HS9.out, HR9.out⟩, HB9.out⟩
    have hkl : k < ss.length := by have := HNS.out; omega
    have hnx := HStep.out k _ (List.getElem?_eq_getElem hkl)
    have hsm := HSo.out _ (List.getElem_mem hkl)
    have hLk := HLen.out (k + 1)
    rw [hnx, List.length_append] at hLk
    obtain ⟨q, o, rfl, hc⟩ := HSr.out.cell hst.out.below (by omega)
    obtain ⟨e0, e1, e2, e3, e4, e5⟩ := selCells_at ss k _ (List.getElem?_eq_getElem hkl)
    have d0 := hc _ _ e0
    have d1 := hc _ _ e1
    have d2 := hc _ _ e2
    have d3 := hc _ _ e3
    have d4 := hc _ _ e4
    have d5 := hc _ _ e5
    rw [← Nat.add_assoc] at d1 d2 d3 d4 d5
    generalize ss[k] = s at hnx hsm hLk d0 d1 d2 d3 d4 d5
    generalize flatO (spansL p l) ss k = L0 at hnx hLk hst ⊢
    clear e0 e1 e2 e3 e4 e5 hc hkl
    obtain ⟨s', hs'⟩ : ∃ s', s' = s := ⟨_, rfl⟩
    rw [← hs'] at hnx hsm hLk
    obtain ⟨kd, nm, ⟨⟨v6, hh, lo⟩, bits⟩⟩ := s
    simp only at d0 d1 d2 d3 d4 d5
    have HSS := Lib.hid hs'
    have HLk := Lib.hid hLk
    have HNX := Lib.hid hnx
    have HSM := Lib.hid hsm
    have hL0 : L0.length ≤ 2000000 := by have := HLk.out; omega
    clear hs' hLk hnx hsm
    go_upto_region 5 with fail
    have HG := Lib.hid (Blk.new wo 66 #[.int .u8 (kd : Int), .string nm, .bool v6, .int .u64 (hh : Int), .int .u64 (lo : Int), .int .u8 (bits : Int)])
    have hst5 := Lib.hid (hst.out.step (boxed wo (.cells #[.int .u8 (kd : Int), .string nm, .bool v6, .int .u64 (hh : Int), .int .u64 (lo : Int), .int .u8 (bits : Int)] 66)))
    clear d0 d1 d2 d3 d4 d5 hst
    generalize wo.alloc (.cells #[.int .u8 (kd : Int), .string nm, .bool v6, .int .u64 (hh : Int), .int .u64 (lo : Int), .int .u8 (bits : Int)] 66) = w5 at HG hst5 ⊢
    generalize wo.heap.size = G at HG ⊢
    have s0 := HG.out.cell 0
    have s1 := HG.out.cell 1
    have s2 := HG.out.cell 2
    have s3 := HG.out.cell 3
    have s4 := HG.out.cell 4
    have s5 := HG.out.cell 5
    simp at s0 s1 s2 s3 s4 s5
    have p0 := hst5.out.pol.cell 0
    have p1 := hst5.out.pol.cell 1
    have p2 := hst5.out.pol.cell 2
    have p3 := hst5.out.pol.cell 3
    simp at p0 p1 p2 p3
    by_cases k1 : kd = 1
    · have e1 : ((kd : Int) == 1) = true := by simp; omega
      have HNx : RowKit.Hid (flatO (spansL p l) ss (k + 1) = L0 ++ [(⟨false, 0, 0⟩, ⟨false, 0, 4294967295⟩), (⟨true, 0, 0⟩, ⟨true, 18446744073709551615, 18446744073709551615⟩)]) := Lib.hid (by rw [HNX.out]; unfold spansL; rw [if_pos (by rw [HSS.out]; exact k1)])
      clear k1
      go_wp2_with (first
        | (go_at_call 37; (with_reducible refine (HWa.out _).mono ?_); rintro r w6 ⟨rfl, d6⟩)
        | (go_at_call 37; (with_reducible refine (HWb.out _).mono ?_); rintro r w7 ⟨rfl, d7⟩; have hst7 := Lib.hid (hst5.out.step (after d6 d7)); clear d6 d7)
        | (at_builtin; refine wpList_append_own _ rfl _ _ 70 rfl w.heap.size 73 i0 (.agg #[.bool false, .int .u64 0, .int .u64 0, .bool false, .int .u64 0, .int .u64 0]) 6 48 Tryz.underlying70 hi hz0 hz1 hz2 rfl (by decide) _ L0.length _ rfl ((hst7.out.own).alloc _) ⟨(w7).heap.size, 0, none⟩ 2 2 [.bool false, .int .u64 0, .int .u64 0, .bool false, .int .u64 0, .int .u64 4294967295, .bool true, .int .u64 0, .int .u64 0, .bool true, .int .u64 18446744073709551615, .int .u64 18446744073709551615] rfl rfl (cells_new (w7) [.bool false, .int .u64 0, .int .u64 0, .bool false, .int .u64 0, .int .u64 4294967295, .bool true, .int .u64 0, .int .u64 0, .bool true, .int .u64 18446744073709551615, .int .u64 18446744073709551615] 73) (by intro u hu; simp at hu; rcases hu with rfl | rfl | rfl | rfl | rfl | rfl | rfl | rfl | rfl | rfl | rfl | rfl <;> rfl) (by unfold maxLen; omega) (by omega) (by have := (hst7.out.below).size; simp; omega) ?_; intro v' wz hown' hgrow' hnil'; have hsh := own_shape hown'; (obtain ⟨A8, c8, rfl⟩ := hsh); have HS8 := Lib.hid (SpO.more (M := [(⟨false, 0, 0⟩, ⟨false, 0, 4294967295⟩), (⟨true, 0, 0⟩, ⟨true, 18446744073709551615, 18446744073709551615⟩)]) (hst7.out) _ hown' hgrow'); clear hown' hgrow' hnil'))
      go_roundw
      case rel => exact ⟨k + 1, A8, c8, by omega, by go_num, by rw [HNx.out, List.length_append]; rfl, Lib.hid (by rw [HNx.out]; rw [List.length_append]; exact HS8.out)⟩
      case measure => simp [intOf]; omega
    have e1 : ((kd : Int) == 1) = false := by simp; omega
    by_cases k5 : kd = 5
    · have e5 : ((kd : Int) == 5) = true := by simp; omega
      have hhost := fun u hu => HHost.out u hu nm
      have hnx : flatO (spansL p l) ss (k + 1) = L0 ++ (match findH p nm with | some h => [wholeP h.net] | none => []) := by rw [HNX.out]; unfold spansL; rw [if_neg (by rw [HSS.out]; exact k1), if_pos (by rw [HSS.out]; exact k5), HSS.out]; cases findH p nm <;> rfl
      have hok := fun x (hx : findH p nm = some x) => HHs.out nm x hx
      generalize findH p nm = F at hhost hnx hok
      have HHost' := Lib.hid hhost
      clear hhost k1 k5
      cases F with
      | none =>
        simp only [List.append_nil] at hnx
        have HNx := Lib.hid hnx
        clear hnx hok
        go_upto_region 10 with (go_at_call 38; (with_reducible refine (HHost'.out _ hst5.out.below).mono ?_); rintro r w6 ⟨⟨n, rfl, hn⟩, d6⟩; (obtain ⟨⟨nv, nh, nl⟩, nb⟩ := n); unfold Pf.cells; simp only [Option.isSome])
        go_wp2_with fail
        go_roundw
        case rel => exact ⟨k + 1, A, c, by omega, by go_num, by rw [HNx.out], Lib.hid (by rw [HNx.out]; exact hst5.out.step (after d6 (boxed _ _)))⟩
        case measure => simp [intOf]; omega
      | some x =>
        have hok := hok x rfl
        obtain ⟨xn, xp⟩ := x
        simp only at hnx hok
        obtain ⟨⟨xv, xh, xl⟩, xb⟩ := xp
        go_upto_region 10 with (go_at_call 38; (with_reducible refine (HHost'.out _ hst5.out.below).mono ?_); rintro r w6 ⟨⟨n, rfl, hn⟩, d6⟩; (obtain rfl := hn _ rfl); unfold Pf.cells; simp only [Option.isSome])
        have hb6 := boxed w6 (.cells #[.bool xv, .int .u64 (xh : Int), .int .u64 (xl : Int), .int .u8 (xb : Int)] 64)
        have HN := Lib.hid (Blk.new w6 64 #[.bool xv, .int .u64 (xh : Int), .int .u64 (xl : Int), .int .u8 (xb : Int)])
        have hst6 := Lib.hid (hst5.out.step (after d6 hb6))
        clear s0 s1 s2 s3 s4 s5 p0 p1 p2 p3 d6 hb6 hn hst5
        generalize w6.alloc (.cells #[.bool xv, .int .u64 (xh : Int), .int .u64 (xl : Int), .int .u8 (xb : Int)] 64) = w7 at HN hst6 ⊢
        generalize w6.heap.size = Z at HN ⊢
        have z0 := HN.out.cell 0
        have z1 := HN.out.cell 1
        have z2 := HN.out.cell 2
        have z3 := HN.out.cell 3
        simp at z0 z1 z2 z3
        obtain ⟨R, hR⟩ : ∃ R, R = wholeP ⟨⟨xv, xh, xl⟩, xb⟩ := ⟨_, rfl⟩
        have hw := HWh.out ⟨⟨xv, xh, xl⟩, xb⟩ hok.1 hok.2
        rw [← hR] at hw hnx
        obtain ⟨⟨r1, r2, r3⟩, ⟨r4, r5, r6⟩⟩ := R
        unfold Sp.cells Pf.cells at hw
        simp only at hw
        have HW := Lib.hid hw
        have HNx := Lib.hid hnx
        clear hw hnx hok hR
        go_wp2_with (first
          | (go_at_call 37; (with_reducible refine (HW.out _).mono ?_); rintro r w8 ⟨rfl, d8⟩; have hst8 := Lib.hid (hst6.out.step d8); clear d8)
          | (at_builtin; refine wpList_append_own _ rfl _ _ 70 rfl w.heap.size 73 i0 (.agg #[.bool false, .int .u64 0, .int .u64 0, .bool false, .int .u64 0, .int .u64 0]) 6 48 Tryz.underlying70 hi hz0 hz1 hz2 rfl (by decide) _ L0.length _ rfl ((hst8.out.own).alloc _) ⟨(w8).heap.size, 0, none⟩ 1 1 [.bool r1, .int .u64 (r2 : Int), .int .u64 (r3 : Int), .bool r4, .int .u64 (r5 : Int), .int .u64 (r6 : Int)] rfl rfl (cells_new (w8) [.bool r1, .int .u64 (r2 : Int), .int .u64 (r3 : Int), .bool r4, .int .u64 (r5 : Int), .int .u64 (r6 : Int)] 73) (by intro u hu; simp at hu; rcases hu with rfl | rfl | rfl | rfl | rfl | rfl <;> rfl) (by unfold maxLen; omega) (by omega) (by have := (hst8.out.below).size; simp; omega) ?_; intro v' wz hown' hgrow' hnil'; have hsh := own_shape hown'; (obtain ⟨A8, c8, rfl⟩ := hsh); have HS8 := Lib.hid (SpO.more (M := [(⟨r1, r2, r3⟩, ⟨r4, r5, r6⟩)]) (hst8.out) _ hown' hgrow'); clear hown' hgrow' hnil'))
        go_roundw
        case rel => exact ⟨k + 1, A8, c8, by omega, by go_num, by rw [HNx.out, List.length_append]; rfl, Lib.hid (by rw [HNx.out]; rw [List.length_append]; exact HS8.out)⟩
        case measure => simp [intOf]; omega
    have e5 : ((kd : Int) == 5) = false := by simp; omega
    by_cases k6 : kd = 6
    · have e6 : ((kd : Int) == 6) = true := by simp; omega
      have hok := HSM.out (by rw [HSS.out]; exact k6)
      have hnx : flatO (spansL p l) ss (k + 1) = L0 ++ [wholeP s'.net] := by rw [HNX.out]; unfold spansL; rw [if_neg (by rw [HSS.out]; exact k1), if_neg (by rw [HSS.out]; exact k5), if_pos (by rw [HSS.out]; exact k6)]
      rw [HSS.out] at hok hnx
      simp only at hok hnx
      clear k1 k5 k6
      obtain ⟨R, hR⟩ : ∃ R, R = wholeP ⟨⟨v6, hh, lo⟩, bits⟩ := ⟨_, rfl⟩
      have hw := HWh.out ⟨⟨v6, hh, lo⟩, bits⟩ hok.1 hok.2
      rw [← hR] at hw hnx
      obtain ⟨⟨r1, r2, r3⟩, ⟨r4, r5, r6⟩⟩ := R
      unfold Sp.cells Pf.cells at hw
      simp only at hw
      have HW := Lib.hid hw
      have HNx := Lib.hid hnx
      clear hw hnx hok hR
      go_wp2_with (first
        | (go_at_call 37; (with_reducible refine (HW.out _).mono ?_); rintro r w8 ⟨rfl, d8⟩; have hst8 := Lib.hid (hst5.out.step d8); clear d8)
        | (at_builtin; refine wpList_append_own _ rfl _ _ 70 rfl w.heap.size 73 i0 (.agg #[.bool false, .int .u64 0, .int .u64 0, .bool false, .int .u64 0, .int .u64 0]) 6 48 Tryz.underlying70 hi hz0 hz1 hz2 rfl (by decide) _ L0.length _ rfl ((hst8.out.own).alloc _) ⟨(w8).heap.size, 0, none⟩ 1 1 [.bool r1, .int .u64 (r2 : Int), .int .u64 (r3 : Int), .bool r4, .int .u64 (r5 : Int), .int .u64 (r6 : Int)] rfl rfl (cells_new (w8) [.bool r1, .int .u64 (r2 : Int), .int .u64 (r3 : Int), .bool r4, .int .u64 (r5 : Int), .int .u64 (r6 : Int)] 73) (by intro u hu; simp at hu; rcases hu with rfl | rfl | rfl | rfl | rfl | rfl <;> rfl) (by unfold maxLen; omega) (by omega) (by have := (hst8.out.below).size; simp; omega) ?_; intro v' wz hown' hgrow' hnil'; have hsh := own_shape hown'; (obtain ⟨A8, c8, rfl⟩ := hsh); have HS8 := Lib.hid (SpO.more (M := [(⟨r1, r2, r3⟩, ⟨r4, r5, r6⟩)]) (hst8.out) _ hown' hgrow'); clear hown' hgrow' hnil'))
      go_roundw
      case rel => exact ⟨k + 1, A8, c8, by omega, by go_num, by rw [HNx.out, List.length_append]; rfl, Lib.hid (by rw [HNx.out]; rw [List.length_append]; exact HS8.out)⟩
      case measure => simp [intOf]; omega
    have e6 : ((kd : Int) == 6) = false := by simp; omega
    have hmid : flatO (spansL p l) ss (k + 1) = L0 ++ l.flatMap (pairsL p s') := by rw [HNX.out, spansL_other (by rw [HSS.out]; exact k1) (by rw [HSS.out]; exact k5) (by rw [HSS.out]; exact k6)]
    have hlm : L0.length + (l.flatMap (pairsL p s')).length ≤ 2000000 := by have := HLk.out; rw [spansL_other (by rw [HSS.out]; exact k1) (by rw [HSS.out]; exact k5) (by rw [HSS.out]; exact k6)] at this; exact this
    rw [← flatO_end] at hmid
    have HMid := Lib.hid hmid
    have HLm := Lib.hid hlm
    have hpk : ∀ u, Below w.heap.size w u → Calls Tryz.prog 39 #[.agg #[.slice Ag NG cg, .slice At NT ct, .slice Ah NH ch, .slice Aa NA ca], .agg #[.int .u8 (kd : Int), .string nm, .bool v6, .int .u64 (hh : Int), .int .u64 (lo : Int), .int .u8 (bits : Int)]] u fun r w' => (∃ v, r = .returned v ∧ PicksMem w w' p s' v) ∧ Below u.heap.size u w' := fun u hu => by rw [HSS.out]; exact HPk.out u hu _
    have HPk' := Lib.hid hpk
    clear hmid hlm hpk k1 k5 k6
    go_upto_region 15 with (go_at_call 39; (with_reducible refine (HPk'.out _ hst5.out.below).mono ?_); rintro r w6 ⟨⟨mv, rfl, hmv⟩, d6⟩; (obtain ⟨fv, lb, rfl, eg, hpc⟩ := hmv.at_ (hst5.out.below.trans (d6.mono hst5.out.below.size))); have HM := Lib.hid hmv; clear hmv hpc)
    have hst6 := Lib.hid (SpIn.mk (hst5.out.step d6) HM.out)
    clear s0 s1 s2 s3 s4 s5 p0 p1 p2 p3 d6 hst5 HM HG
    go_wp2_with fail
    go_loopw [7, 63] (fun v7 v63 wr => ∃ (i : Nat) (A : Option Addr) (c : Nat), i ≤ NP ∧ v63 = .int .i64 (i : Int) ∧ v7 = .slice A (L0 ++ flatO (pairsL p s') l i).length c ∧ RowKit.Hid (SpIn w wr P #[.slice Ag NG cg, .slice At NT ct, .slice Ah NH ch, .slice Aa NA ca] p s' (.func (.func fv) #[] lb) (.slice A (L0 ++ flatO (pairsL p s') l i).length c) (L0 ++ flatO (pairsL p s') l i))) (fun _ v63 _ => NP - (intOf v63).toNat)
    case atStart => exact ⟨0, A, c, Nat.zero_le _, rfl, by rw [flatO_zero, List.append_nil], Lib.hid (by rw [flatO_zero, List.append_nil]; exact hst6.out)⟩
    case round =>
      clear hst6
      obtain ⟨i, A, c, hi', rfl, rfl, hst⟩ := hrel
      obtain ⟨wo2, rfl⟩ : ∃ wo2 : World, wo2 = wr := ⟨_, rfl⟩
      by_cases hlt2 : i < NP
      case neg =>
        obtain rfl : NP = i := by omega
        have hE := HMid.out
        rw [← HXL.out] at hE
        have HE := Lib.hid hE
        clear hE
        go_wp2_with fail
        go_roundw
        case rel => exact ⟨k + 1, A, c, by omega, by go_num, by rw [HE.out], Lib.hid (by rw [HE.out]; exact hst.out.o)⟩
        case measure => simp [intOf]; omega
      have hil : i < xs.length := by have := HNP.out; omega
      have hXi : xs[i]? = some xs[i] := List.getElem?_eq_getElem hil
      have hXm := HPm.out _ (List.getElem_mem hil)
      generalize xs[i] = X at hXi hXm
      have hxi : l[i]? = some X.x := by rw [← HXs.out, List.getElem?_map, hXi]; rfl
      obtain ⟨q, o, rfl, hc⟩ := HPr.out.cell hst.out.o.below (by omega)
      obtain ⟨key, disco, us, A1, n1, c1, A2, c2, ex, relay, A3, n3, c3, hXc, hXa⟩ := pe_open hXm
      have had := hXm.addrs
      rw [hXa] at had
      have hal := hXm.al
      have d0 := hc _ _ (pe_cell hXi hXc (r := 0) rfl)
      have d1 := hc _ _ (pe_cell hXi hXc (r := 1) rfl)
      have d2 := hc _ _ (pe_cell hXi hXc (r := 2) rfl)
      have d3 := hc _ _ (pe_cell hXi hXc (r := 3) rfl)
      have d4 := hc _ _ (pe_cell hXi hXc (r := 4) rfl)
      have d5 := hc _ _ (pe_cell hXi hXc (r := 5) rfl)
      have d6 := hc _ _ (pe_cell hXi hXc (r := 6) rfl)
      have d7 := hc _ _ (pe_cell hXi hXc (r := 7) rfl)
      rw [Nat.add_zero] at d0
      rw [← Nat.add_assoc] at d1 d2 d3 d4 d5 d6 d7
      obtain ⟨x, hx⟩ : ∃ x, x = X.x := ⟨_, rfl⟩
      rw [← hx] at had hal hxi hXc d4
      have hme := mid_end L0 (p := p) (s := s') hxi
      have hml := fun j => mid_len HLm.out hxi j
      obtain ⟨AL, hAL⟩ : ∃ n, n = x.addrs.length := ⟨_, rfl⟩
      rw [← hAL] at had hal hXc d4 hme
      generalize L0 ++ flatO (pairsL p s') l i = L1 at hst hme hml ⊢
      have HXm := Lib.hid hXm
      have HXc := Lib.hid hXc
      have HX := Lib.hid hx
      have HAL := Lib.hid hAL
      have HAd := Lib.hid had
      have HMe := Lib.hid hme
      have HMl := Lib.hid hml
      clear hc hXi hXm hxi hXc hXa had hx hAL hme hml hil
      go_upto_region 18 with fail
      have HQ := Lib.hid (Blk.new wo2 53 #[.string key, .string disco, .string us, .slice A1 n1 c1, .slice A2 AL c2, .int .u64 (ex : Int), .int .u8 (relay : Int), .slice A3 n3 c3])
      have hst2 := Lib.hid (hst.out.step (boxed wo2 (.cells #[.string key, .string disco, .string us, .slice A1 n1 c1, .slice A2 AL c2, .int .u64 (ex : Int), .int .u8 (relay : Int), .slice A3 n3 c3] 53)))
      clear d0 d1 d2 d3 d4 d5 d6 d7 hst
      generalize wo2.alloc (.cells #[.string key, .string disco, .string us, .slice A1 n1 c1, .slice A2 AL c2, .int .u64 (ex : Int), .int .u8 (relay : Int), .slice A3 n3 c3] 53) = w7 at HQ hst2 ⊢
      generalize wo2.heap.size = Q at HQ ⊢
      have q4 := HQ.out.cell 4
      simp at q4
      go_wp2_with fail
      clear q4
      go_loopw [7, 70] (fun v7 v70 wr => ∃ (j : Nat) (A : Option Addr) (c : Nat), j ≤ AL ∧ v70 = .int .i64 (j : Int) ∧ v7 = .slice A (L1 ++ partsL p s' x j).length c ∧ RowKit.Hid (SpIn w wr P #[.slice Ag NG cg, .slice At NT ct, .slice Ah NH ch, .slice Aa NA ca] p s' (.func (.func fv) #[] lb) (.slice A (L1 ++ partsL p s' x j).length c) (L1 ++ partsL p s' x j)) ∧ RowKit.Hid (Blk wr Q 53 #[.string key, .string disco, .string us, .slice A1 n1 c1, .slice A2 AL c2, .int .u64 (ex : Int), .int .u8 (relay : Int), .slice A3 n3 c3])) (fun _ v70 _ => AL - (intOf v70).toNat)
      case atStart => exact ⟨0, A, c, Nat.zero_le _, rfl, by rw [parts_zero, List.append_nil], Lib.hid (by rw [parts_zero, List.append_nil]; exact hst2.out), HQ⟩
      case round =>
        clear hst2 HQ
        obtain ⟨j, A, c, hj, rfl, rfl, hst, HQ⟩ := hrel
        obtain ⟨wo3, rfl⟩ : ∃ wo3 : World, wo3 = wr := ⟨_, rfl⟩
        by_cases hlt3 : j < AL
        case neg =>
          obtain rfl : AL = j := by omega
          go_wp2_with fail
          go_roundw
          case rel => exact ⟨i + 1, A, c, by omega, by go_num, by rw [HMe.out], Lib.hid (by rw [← HMe.out]; exact hst.out)⟩
          case measure => simp [intOf]; omega
        have hjl : j < x.addrs.length := by have := HAL.out; omega
        have hya : x.addrs[j]? = some x.addrs[j] := List.getElem?_eq_getElem hjl
        obtain ⟨q', o', rfl, hc⟩ := HAd.out.cell hst.out.o.below (by omega)
        obtain ⟨f0, f1, f2⟩ := adCells_at hya
        have d0 := hc _ _ f0
        have d1 := hc _ _ f1
        have d2 := hc _ _ f2
        rw [← Nat.add_assoc] at d1 d2
        have hpy : picksP p s' x = true → L1 ++ partsL p s' x (j + 1) = L1 ++ partsL p s' x j ++ [(x.addrs[j], x.addrs[j])] := fun h => by rw [parts_yes h hya, ← List.append_assoc]
        have hpn : picksP p s' x = false → L1 ++ partsL p s' x (j + 1) = L1 ++ partsL p s' x j := fun h => by rw [parts_no h j]
        have hml := HMl.out j
        generalize x.addrs[j] = a at d0 d1 d2 hpy
        generalize L1 ++ partsL p s' x j = L2 at hst hpy hpn hml ⊢
        obtain ⟨av, ah, al⟩ := a
        simp only at d0 d1 d2
        have HPy := Lib.hid hpy
        have HPn := Lib.hid hpn
        clear hc f0 f1 f2 hya hjl hpy hpn
        go_upto_region 21 with fail
        have hb := boxed wo3 (.cells #[.bool av, .int .u64 (ah : Int), .int .u64 (al : Int)] 40)
        have HA := Lib.hid (Blk.new wo3 40 #[.bool av, .int .u64 (ah : Int), .int .u64 (al : Int)])
        have hst3 := Lib.hid (hst.out.step hb)
        have HQ3 := Lib.hid (HQ.out.below hb HQ.out.lt)
        clear d0 d1 d2 hst HQ hb
        generalize wo3.alloc (.cells #[.bool av, .int .u64 (ah : Int), .int .u64 (al : Int)] 40) = w9 at HA hst3 HQ3 ⊢
        generalize wo3.heap.size = Y at HA ⊢
        have q0 := HQ3.out.cell 0
        have q1 := HQ3.out.cell 1
        have q2 := HQ3.out.cell 2
        have q3 := HQ3.out.cell 3
        have q4 := HQ3.out.cell 4
        have q5 := HQ3.out.cell 5
        have q6 := HQ3.out.cell 6
        have q7 := HQ3.out.cell 7
        have a0 := HA.out.cell 0
        have a1 := HA.out.cell 1
        have a2 := HA.out.cell 2
        simp at q0 q1 q2 q3 q4 q5 q6 q7 a0 a1 a2
        have hcall := hst3.out.call HXm.out HXc.out HX.out
        cases hpk : picksP p s' x with
        | false =>
          rw [hpk] at hcall
          have HCall := Lib.hid hcall
          have HNo := Lib.hid (HPn.out hpk)
          clear hcall hpk
          go_wp2_with (go_at_fn fv; (with_reducible refine HCall.out.mono ?_); rintro r wa ⟨rfl, da⟩)
          go_roundw
          case rel => exact ⟨j + 1, A, c, by omega, by go_num, by rw [HNo.out], Lib.hid (by rw [HNo.out]; exact hst3.out.step da), Lib.hid (HQ3.out.below da HQ3.out.lt)⟩
          case measure => simp [intOf]; omega
        | true =>
          rw [hpk] at hcall
          have HCall := Lib.hid hcall
          have HYes := Lib.hid (HPy.out hpk)
          clear hcall hpk
          go_wp2_with (first
            | (go_at_fn fv; (with_reducible refine HCall.out.mono ?_); rintro r wa ⟨rfl, da⟩; have a0' := cellB a0 da; have a1' := cellB a1 da; have a2' := cellB a2 da; have hsta := Lib.hid (hst3.out.step da); have HQa := Lib.hid (HQ3.out.below da HQ3.out.lt); clear da)
            | (at_builtin; refine wpList_append_own _ rfl _ _ 70 rfl w.heap.size 73 i0 (.agg #[.bool false, .int .u64 0, .int .u64 0, .bool false, .int .u64 0, .int .u64 0]) 6 48 Tryz.underlying70 hi hz0 hz1 hz2 rfl (by decide) _ L2.length _ rfl ((hsta.out.o.own).alloc _) ⟨(wa).heap.size, 0, none⟩ 1 1 [.bool av, .int .u64 (ah : Int), .int .u64 (al : Int), .bool av, .int .u64 (ah : Int), .int .u64 (al : Int)] rfl rfl (cells_new (wa) [.bool av, .int .u64 (ah : Int), .int .u64 (al : Int), .bool av, .int .u64 (ah : Int), .int .u64 (al : Int)] 73) (by intro u hu; simp at hu; rcases hu with rfl | rfl | rfl | rfl | rfl | rfl <;> rfl) (by unfold maxLen; omega) (by omega) (by have := (hsta.out.o.below).size; simp; omega) ?_; intro v' wz hown' hgrow' hnil'; have hsh := own_shape hown'; (obtain ⟨A8, c8, rfl⟩ := hsh); have HS8 := Lib.hid (SpIn.more (M := [(⟨av, ah, al⟩, ⟨av, ah, al⟩)]) hsta.out _ hown' hgrow'); have HQ8 := Lib.hid (blk_row (HQa.out.below (boxed _ _) HQa.out.lt) (own_below hsta.out.o.own (boxed _ _)) hgrow' (by decide)); clear hown' hgrow' hnil'))
          go_roundw
          case rel => exact ⟨j + 1, A8, c8, by omega, by go_num, by rw [HYes.out, List.length_append]; rfl, Lib.hid (by rw [HYes.out]; rw [List.length_append]; exact HS8.out), HQ8⟩
          case measure => simp [intOf]; omega
end Go.Proofs.YthglckoikjfjkaaGreatDoor
