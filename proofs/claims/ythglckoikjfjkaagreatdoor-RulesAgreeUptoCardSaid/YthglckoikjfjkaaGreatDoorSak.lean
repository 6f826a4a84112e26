/- Joined out of: PxH PxI PxJ PxK PlS PlU. -/
import Derived.Test.YthglckoikjfjkaaGreatDoorSaj
import Derived.Shelf.Strings.Builder1
import Derived.Test.YthglckoikjfjkaaGreatDoorSag
import Derived.Recover
set_option linter.unusedVariables false
set_option linter.unusedSimpArgs false

/- A text that is written into a strings.Builder: the walks. -/
namespace Go.Proofs.YthglckoikjfjkaaGreatDoor
open Go.RowKit

set_option maxHeartbeats 4000000 in
set_option maxRecDepth 100000 in
theorem copyCheck_used (b : Nat) (w : World) (h0 : w.cell? ⟨b, 0, none⟩ = some (.pointer (some ⟨b, 0, none⟩))) : Calls Tryz.prog 97 #[.pointer (some ⟨b, 0, none⟩)] w fun r w' => r = .returned (.tuple #[]) ∧ w' = w := by
  obtain ⟨j, hj, _⟩ := Option.map_eq_some_iff.1 Tryz.Builder_Extra_169.sizeBuilder
  go_enter Tryz.func97, Tryz.ntmps97
  go_wp2_with fail
  rw [Lib.run_neq_ptr_same w _ Tryz.underlying117 hj]
  go_wp2_with fail
  go_end0
  exact ⟨rfl, rfl⟩

set_option maxHeartbeats 4000000 in
set_option maxRecDepth 100000 in
theorem copyCheck_fresh (b : Nat) (w : World) (h0 : w.cell? ⟨b, 0, none⟩ = some (.pointer none)) (hsh : w.shape? b = some (119, 2)) (hfz : w.frozen? ⟨b, 0, none⟩ = false) : Calls Tryz.prog 97 #[.pointer (some ⟨b, 0, none⟩)] w fun r w' => r = .returned (.tuple #[]) ∧ w' = w.setCell ⟨b, 0, none⟩ (.pointer (some ⟨b, 0, none⟩)) := by
  obtain ⟨j, hj, hjs⟩ := Option.map_eq_some_iff.1 Tryz.Builder_Extra_169.sizeBuilder
  go_enter Tryz.func97, Tryz.ntmps97
  go_wp2_with fail
  rw [Lib.run_to_unsafe w ⟨b, 0, none⟩ Tryz.underlying117 Tryz.underlying174 hj (by rw [hjs]; decide) hsh (Nat.zero_lt_succ 1)]
  simp only [Result.andThen]
  rw [Oper.upon_value]
  go_wp2_with fail
  rw [run_callFunc_extern Tryz.func113 (by kernel_rfl) (by kernel_rfl) (by kernel_rfl) (e := Extern.AbiNoEscape.same) (by kernel_rfl)]
  rw [Lib.run_noEscape]
  simp only [Result.andThen]
  rw [Oper.upon_value]
  go_wp2_with fail
  rw [Lib.run_from_unsafe w ⟨b, 0, none⟩ Tryz.underlying174 Tryz.underlying117 hj hsh Tryz.Builder_Extra_169.liesBuilder]
  simp only [Result.andThen]
  rw [Oper.upon_value]
  go_wp2_with fail
  go_end0
  exact ⟨rfl, rfl⟩
theorem copyCheck_any {B b : Nat} {bs : List Value} {w : World} (h : Lib.IsBuilder 119 5 B b bs w) : Calls Tryz.prog 97 #[.pointer (some ⟨b, 0, none⟩)] w fun r w' => r = .returned (.tuple #[]) ∧ Lib.BuilderAt 119 5 B b (.pointer (some ⟨b, 0, none⟩)) bs w' ∧ Below B w w' ∧ ∀ g t cs, Blk w g t cs → g ≠ b → Blk w' g t cs := by
  rcases h with h | h
  · refine (copyCheck_fresh b w h.cell0 h.shape h.frozen0).mono ?_
    rintro r w' ⟨rfl, rfl⟩
    exact ⟨rfl, h.used _, (Below.refl B w).setCell (p := ⟨b, 0, none⟩) h.1 _, fun g t cs hg hne => hg.far hne _⟩
  · refine (copyCheck_used b w h.cell0).mono ?_
    rintro r w' ⟨rfl, rfl⟩
    exact ⟨rfl, h, Below.refl B _, fun g t cs hg _ => hg⟩

set_option maxHeartbeats 4000000 in
set_option maxRecDepth 100000 in
theorem writeString_any {B b : Nat} {bs : List Value} (s : ByteArray) {w : World} (h : Lib.IsBuilder 119 5 B b bs w) (hlen : bs.length + s.size ≤ 140737488355328) (hBw : B ≤ w.heap.size) :
    Calls Tryz.prog 61 #[.pointer (some ⟨b, 0, none⟩), .string s] w fun r w' => r = .returned (.tuple #[.int .i64 (s.size : Int), .nilIface]) ∧ Lib.BuilderAt 119 5 B b (.pointer (some ⟨b, 0, none⟩)) (bs ++ Lib.strCells s) w' ∧ Below B w w' ∧ ∀ g t cs, Blk w g t cs → g ≠ b → t ≠ 5 → Blk w' g t cs := by
  obtain ⟨i0, hi, hz0, hz1, hz2⟩ := info_parts Tryz.Builder_Extra_169.infoByte
  have hcc := Lib.hid (copyCheck_any h)
  go_enter Tryz.func61, Tryz.ntmps61
  go_wp2_with fail
  go_at_call 97
  refine hcc.out.mono ?_
  rintro r w1 ⟨rfl, h1, hb1, hk1⟩
  have Hk1 := Lib.hid hk1
  clear hk1
  obtain ⟨hB, v, hbk, hown, hne⟩ := h1
  have c1 : w1.cell? ⟨b, 1, none⟩ = some v := by rw [Lib.cell_of_heap hbk]; rfl
  go_wp2_with (at_builtin; refine Lib.wpList_append_own_string _ rfl _ _ 57 9 rfl B 5 i0 Tryz.underlying57 Tryz.underlying9 hi hz0 hz1 hz2 _ _ _ rfl hown s rfl ?c3 ?c4 ?c5 ?_)
  case c3 => unfold maxLen; omega
  case c4 => omega
  case c5 => have := hb1.size; omega
  intro v' w2 hown' hgrow _
  have hlt : b < w1.heap.size := by
    rcases Nat.lt_or_ge b w1.heap.size with h' | h'
    · exact h'
    · simp [Array.getElem?_eq_none h'] at hbk
  have hb2 : w2.heap[b]? = some (.cells #[.pointer (some ⟨b, 0, none⟩), v] 119 (0, 0)) := by
    rw [hgrow.block b hlt (fun e => hne e.symm)]
    exact hbk
  have d1 : w2.cell? ⟨b, 1, none⟩ = some v := by rw [Lib.cell_of_heap hb2]; rfl
  have f1 : w2.frozen? ⟨b, 1, none⟩ = false := Lib.frozen_of_heap hb2 1
  obtain ⟨ao, n', cap, rfl⟩ : ∃ ao n' cap, v' = .slice ao n' cap := by
    rcases hown'.2 with ⟨hv, _⟩ | ⟨g, cap, cur, hv, _⟩
    · exact ⟨_, _, _, hv⟩
    · exact ⟨_, _, _, hv⟩
  go_wp2_with fail
  go_ret2
  refine ⟨rfl, ?_, ?_, ?_⟩
  · exact Lib.BuilderAt.put (T := 119) (e := 5) hB hb2 (bs' := bs ++ Lib.strCells s) (by simpa [Lib.strCells_length] using hown') (by decide)
  · exact (hb1.grown hgrow (by have := hb1.size; omega) (fun k hk => (hown.lt k hk).1)).setCell (p := ⟨b, 1, none⟩) hB _
  · intro g t cs hg hne ht
    have h1 := Hk1.out g t cs hg hne
    exact (h1.grown hgrow (fun e => Lib.ownBlock_ne hown h1 ht e.symm)).far (p := ⟨b, 1, none⟩) hne _
end Go.Proofs.YthglckoikjfjkaaGreatDoor

/- A line into a strings.Builder (Text$1): the walk. -/
namespace Go.Proofs.YthglckoikjfjkaaGreatDoor
open Go.RowKit

theorem builder_below {B b : Nat} {p : Value} {bs : List Value} {w w' : World} (h : Lib.BuilderAt 119 5 B b p bs w) (hb : Below w.heap.size w w') : Lib.BuilderAt 119 5 B b p bs w' := by
  have hlt := h.lt
  obtain ⟨hB, v, hbk, hown, hne⟩ := h
  exact ⟨hB, v, (hb.block b hlt).trans hbk, own_below hown hb, hne⟩
theorem isBuilder_below {B b : Nat} {bs : List Value} {w w' : World} (h : Lib.IsBuilder 119 5 B b bs w) (hb : Below w.heap.size w w') : Lib.IsBuilder 119 5 B b bs w' := h.imp (fun h => builder_below h hb) (fun h => builder_below h hb)

theorem join_big {w : World} {base : Nat} {v : Value} {L : List (List UInt8)} (c : UInt8) (h : w.ownsRow base 9 1 v L.length ((strs L).map Value.string)) (hl : L.length ≤ 1000) (hj : (Lib.join L [c]).length ≤ 4000000000) : Calls Tryz.prog 62 #[v, .string ⟨#[c]⟩] w fun r w' => r = .returned (.string ⟨(Lib.join L [c]).toArray⟩) ∧ Below w.heap.size w w' := by
  have hl2 : (strs L).length = L.length := by simp [strs]
  rcases h.2 with ⟨rfl, hn⟩ | ⟨g, cap, cur, rfl, hg, hh, hcap, _, hsz, htake⟩
  · have : L = [] := List.eq_nil_of_length_eq_zero hn
    subst this
    exact (Tryz.strings_Join_none none 0 ⟨#[c]⟩ w).mono fun r w' hq => ⟨hq.1.trans rfl, by obtain ⟨_, hb⟩ := hq; first | exact hb | (subst hb; exact Below.refl _ _)⟩
  · have hcell := fun j hj => h.cellAt (g := g) (cap := cap) j hj
    have := Tryz.strings_Join g 0 cap (strs L) ⟨#[c]⟩ w (fun j x hx => by
      have hj : j < (strs L).length := (List.getElem?_eq_some_iff.1 hx).1
      rw [Nat.zero_add]
      refine (hcell j (by omega)).trans ?_
      rw [List.getElem?_map, hx]
      rfl) (h.lt g rfl).2 (by omega) (by omega) (by rw [strs_lists]; simpa using (show (Lib.join L [c]).length ≤ 140737488355328 by omega))
    rw [hl2, strs_lists] at this
    exact this
set_option maxHeartbeats 4000000 in
set_option maxRecDepth 100000 in
theorem putLine_any {B b base : Nat} {w : World} (D : List UInt8) (L : List (List UInt8)) {v : Value} {n : Nat} (hn : n = L.length) (hr : w.ownsRow base 9 1 v n (strCells (strs L))) (hb : Lib.IsBuilder 119 5 B b (Lib.byteCells D) w) (h1 : L.length ≤ 1000) (h2 : (Lib.join L [32]).length ≤ 700000000) (hD : D.length ≤ 200000000000) (hB : B ≤ w.heap.size) :
    Calls Tryz.prog 60 #[v, .pointer (some ⟨b, 0, none⟩)] w fun r w' => r = .returned (.tuple #[]) ∧ Lib.IsBuilder 119 5 B b (Lib.byteCells (D ++ lineT L)) w' ∧ Below B w w' ∧ ∀ g t cs, Blk w g t cs → g ≠ b → t ≠ 5 → Blk w' g t cs := by
  subst hn
  have HJ := Lib.hid (join_big (w := w) 32 hr h1 (by omega))
  obtain ⟨A, c, rfl⟩ := own_shape hr
  have hO : ofL (lineT L) = (⟨(Lib.join L [32]).toArray⟩ : ByteArray) ++ ⟨#[10]⟩ := by
    unfold lineT
    apply ByteArray.ext
    simp [ofL]
  have hcat : Lib.byteCells (D ++ lineT L) = Lib.byteCells D ++ Lib.strCells (ofL (lineT L)) := by
    rw [Lib.byteCells_append]
    rfl
  have hs : (⟨(Lib.join L [32]).toArray⟩ : ByteArray).size ≤ 700000000 := by simpa [ByteArray.size] using h2
  rw [hcat, hO]
  obtain ⟨J, hJ⟩ : ∃ J, J = (⟨(Lib.join L [32]).toArray⟩ : ByteArray) := ⟨_, rfl⟩
  rw [← hJ] at HJ hs ⊢
  have HB := Lib.hid hb
  have hl : (Lib.byteCells D).length ≤ 200000000000 := by rw [Lib.byteCells_length]; exact hD
  generalize Lib.byteCells D = X at HB hl ⊢
  have hz : ¬ 9223372036854775807 < J.size + 1 := by omega
  generalize L.length = n at *
  clear hr hb hO hcat hJ h1 h2 hD
  go_enter Tryz.func60, Tryz.ntmps60
  go_wp2_with (first
    | (go_at_call 62; (with_reducible refine HJ.out.mono ?_); rintro r w2 ⟨rfl, g2⟩; have HB2 := Lib.hid (isBuilder_below HB.out g2); have G2 := Lib.hid g2; clear g2)
    | (go_at_call 61; (with_reducible refine (writeString_any (J ++ ⟨#[10]⟩) HB2.out ?hlen ?hBw).mono ?_))
  )
  case hlen => rw [ByteArray.size_append]; show _ + (_ + 1) ≤ _; omega
  case hBw => have := G2.out.size; omega
  rintro r w3 ⟨rfl, hb3, g3, k3⟩
  have K3 := Lib.hid k3
  clear k3
  have HB3 := Lib.hid hb3
  have G3 := Lib.hid ((G2.out.mono hB).trans g3)
  clear hb3 g3
  go_wp2_with fail
  go_end0
  exact ⟨rfl, Or.inr HB3.out, G3.out, fun g t cs hg hne ht => K3.out g t cs (hg.below G2.out hg.lt) hne ht⟩
end Go.Proofs.YthglckoikjfjkaaGreatDoor

/- The lines of a policy that may be, and the text as far as written: plain. Joins without a bound of the shelf's. -/
namespace Go.Proofs.YthglckoikjfjkaaGreatDoor
open Go.RowKit

structure LineSm (l : List (List UInt8)) : Prop where
  len : l.length ≤ 300
  all : ∀ w ∈ l, w.length ≤ 2000010
theorem join_le : ∀ (l : List (List UInt8)) (m : Nat), (∀ w ∈ l, w.length ≤ m) → (Lib.join l [32]).length ≤ l.length * (m + 1) := by
  intro l m
  induction l with
  | nil => intro _; exact Nat.zero_le _
  | cons a r ih =>
    intro h
    have ha := h a (by simp)
    cases r with
    | nil => rw [Lib.join_one]; simp; omega
    | cons b r =>
      have := ih (fun w hw => h w (by simp [hw]))
      rw [join_cons2]
      simp only [List.length_append, List.length_cons, List.length_nil] at this ⊢
      rw [Nat.succ_mul (r.length + 1)]
      omega
theorem LineSm.join {l : List (List UInt8)} (h : LineSm l) : (Lib.join l [32]).length ≤ 700000000 := by
  have h1 := join_le l 2000010 h.all
  have h2 := Nat.mul_le_mul_right (2000010 + 1) h.len
  omega
theorem LineSm.line {l : List (List UInt8)} (h : LineSm l) : (lineT l).length ≤ 700000001 := by
  have := h.join
  unfold lineT
  simp
  exact this
structure PoSmall (p : Po) : Prop where
  gl : p.groups.length ≤ 64
  tl : p.tags.length ≤ 64
  hl : p.hosts.length ≤ 64
  al : p.acls.length ≤ 64
  g : ∀ n ∈ p.groups, NmFit n ∧ 1 ≤ n.list.length ∧ n.list.length ≤ 64
  t : ∀ n ∈ p.tags, NmFit n ∧ 1 ≤ n.list.length ∧ n.list.length ≤ 64
  h : ∀ x ∈ p.hosts, x.name.size ≤ 2000000 ∧ x.net.Ok
  a : ∀ x ∈ p.acls, AcSmall x
theorem rising_small (l : List Nat) (h1 : l.all (fun x => decide (x = 1) || decide (x = 6) || decide (x = 17)) = true) (h2 : rising 0 l = true) : l.length ≤ 3 := by
  match l, h1, h2 with
  | [], _, _ => decide
  | [_], _, _ => simp
  | [_, _], _, _ => simp
  | [_, _, _], _, _ => simp
  | a :: b :: c :: d :: r, h1, h2 =>
    exfalso
    simp only [List.all_cons, rising, Bool.and_eq_true, Bool.or_eq_true, decide_eq_true_eq] at h1 h2
    omega
theorem PoFit.small {p : Po} (hf : PoFit p) (hm : mayP p = true) : PoSmall p := by
  obtain ⟨m1, m2, m3, m4, m5, m6, m7⟩ := mayP_ok hm
  obtain ⟨g1, g2, g3⟩ := mayNm_ok m1
  obtain ⟨t1, t2, t3⟩ := mayNm_ok m2
  have hnm : ∀ l : List Nm, mayNm l = true → ∀ n ∈ l, 1 ≤ n.list.length ∧ n.list.length ≤ 64 := by
    intro l hl n hn
    unfold mayNm at hl
    simp only [Bool.and_eq_true, decide_eq_true_eq] at hl
    have := List.all_eq_true.1 hl.1.1 n hn
    simp only [Bool.and_eq_true, decide_eq_true_eq] at this
    exact ⟨this.1.1.2, this.1.2⟩
  refine ⟨g2, t2, m3, m4, fun n hn => ⟨hf.g n hn, hnm _ m1 n hn⟩, fun n hn => ⟨hf.t n hn, hnm _ m2 n hn⟩, hf.h, fun x hx => ?_⟩
  have h := m6 x hx
  unfold mayAc at h
  simp only [Bool.and_eq_true, decide_eq_true_eq] at h
  obtain ⟨⟨⟨⟨⟨h1, h2⟩, h3⟩, h4⟩, h5⟩, h6⟩ := h
  obtain ⟨s1, s2, s3⟩ := maySels_ok h5
  obtain ⟨d1, d2, d3⟩ := maySels_ok h6
  exact ⟨hf.a x hx, rising_small _ h2 h3, s3, d3, h4⟩
theorem nm_line {W : List UInt8} {n : Nm} (hW : W.length ≤ 10) (h : NmFit n ∧ 1 ≤ n.list.length ∧ n.list.length ≤ 64) : LineSm (nmT W n) := by
  obtain ⟨h1, h2, h3⟩ := h
  constructor
  · unfold nmT; simp; omega
  · intro w hw
    unfold nmT at hw
    simp only [List.mem_append, List.mem_cons, List.mem_map, List.not_mem_nil, or_false] at hw
    rcases hw with (rfl | rfl | rfl) | ⟨s, hs, rfl⟩
    · omega
    · have := h1.name; rw [show n.name.data.toList.length = n.name.size by rw [Array.length_toList]; rfl]; omega
    · decide
    · have := h1.all s hs; rw [show s.data.toList.length = s.size by rw [Array.length_toList]; rfl]; omega
theorem hs_line {x : Hs} (h : x.name.size ≤ 2000000 ∧ x.net.Ok) : LineSm (hsT x) := by
  constructor
  · unfold hsT; simp
  · intro w hw
    unfold hsT at hw
    simp only [List.mem_cons, List.not_mem_nil, or_false] at hw
    rcases hw with rfl | rfl | rfl | rfl
    · decide
    · rw [show x.name.data.toList.length = x.name.size by rw [Array.length_toList]; rfl]; omega
    · decide
    · have h1 := ptextB_size x.net h.2
      have : (ptextB x.net).size = (ptext x.net).length := by unfold ptextB; simp [ByteArray.size]
      omega
theorem selT_len (s : Sel) (h : SelFit s) : (selT s).length ≤ 1900080 := by
  have h1 := selTB_size s h.ok
  have h2 := h.name
  have : (selTB s).size = (selT s).length := by unfold selTB ofL; simp [ByteArray.size]
  omega
theorem ac_line {a : Ac} (h : AcSmall a) : LineSm (aclT a) := by
  have hp : (if a.ports = [] then [] else W_ports.data.toList :: a.ports.map portT).length ≤ 65 := by
    have := h.ol
    split <;> simp
    omega
  constructor
  · have := h.sl
    have := h.dl
    unfold aclT
    simp only [List.length_append, List.length_cons, List.length_nil, List.length_map]
    omega
  · intro w hw
    unfold aclT at hw
    simp only [List.mem_append, List.mem_cons, List.mem_map, List.not_mem_nil, or_false] at hw
    rcases hw with ((((rfl | rfl | rfl) | ⟨s, hs, rfl⟩) | rfl) | ⟨s, hs, rfl⟩) | hw
    · decide
    · split
      · decide
      · have := join_small a.protos h.pl; omega
    · decide
    · have := selT_len s (h.fit.src s hs); omega
    · decide
    · have := selT_len s (h.fit.dst s hs); omega
    · split at hw
      · cases hw
      · simp only [List.mem_cons, List.mem_map] at hw
        rcases hw with rfl | ⟨x, hx, rfl⟩
        · decide
        · obtain ⟨o1, o2⟩ := h.fit.ob x hx
          have d1 := dec5 o1
          have d2 := dec5 o2
          have e1 : (Lib.decDigits x.1).length ≤ 5 := by simpa [ByteArray.size] using d1
          have e2 : (Lib.decDigits x.2).length ≤ 5 := by simpa [ByteArray.size] using d2
          unfold portT
          split <;> simp <;> omega
/- The lines, one behind the other. -/
theorem PoSmall.lines {p : Po} (h : PoSmall p) : ∀ l ∈ linesT p, LineSm l := by
  intro l hl
  unfold linesT at hl
  simp only [List.mem_append, List.mem_map] at hl
  rcases hl with ((⟨x, hx, rfl⟩ | ⟨x, hx, rfl⟩) | ⟨x, hx, rfl⟩) | ⟨x, hx, rfl⟩
  · exact nm_line (by decide) (h.g x hx)
  · exact nm_line (by decide) (h.t x hx)
  · exact hs_line (h.h x hx)
  · exact ac_line (h.a x hx)
theorem lines_len (p : Po) : (linesT p).length = p.groups.length + p.tags.length + p.hosts.length + p.acls.length := by unfold linesT; simp; omega
def atL (p : Po) (j : Nat) : List UInt8 := (((linesT p).take j).map lineT).flatten
theorem atL_succ {p : Po} {j : Nat} {l : List (List UInt8)} (h : (linesT p)[j]? = some l) : atL p (j + 1) = atL p j ++ lineT l := by
  obtain ⟨hj, hl⟩ := List.getElem?_eq_some_iff.1 h
  unfold atL
  rw [List.take_succ_eq_append_getElem hj, hl, List.map_append, List.flatten_append]
  simp
theorem atL_all (p : Po) {j : Nat} (h : (linesT p).length ≤ j) : atL p j = textP p := by
  unfold atL textP
  rw [List.take_of_length_le h]
theorem flat_len : ∀ (L : List (List (List UInt8))), (∀ l ∈ L, LineSm l) → ((L.map lineT).flatten).length ≤ L.length * 700000001 := by
  intro L
  induction L with
  | nil => intro _; exact Nat.zero_le _
  | cons a r ih =>
    intro h
    have h1 := (h a (by simp)).line
    have h2 := ih (fun l hl => h l (by simp [hl]))
    rw [List.map_cons, List.flatten_cons, List.length_append, List.length_cons, Nat.succ_mul]
    omega
theorem atL_len {p : Po} (h : PoSmall p) (j : Nat) : (atL p j).length ≤ 200000000000 := by
  have h1 := flat_len ((linesT p).take j) (fun l hl => h.lines l (List.mem_of_mem_take hl))
  have h2 : ((linesT p).take j).length ≤ 256 := by
    rw [List.length_take, lines_len]
    have := h.gl; have := h.tl; have := h.hl; have := h.al
    omega
  have h3 := Nat.mul_le_mul_right 700000001 h2
  unfold atL
  omega
theorem line_g {p : Po} {k : Nat} {n : Nm} (h : p.groups[k]? = some n) : (linesT p)[k]? = some (nmT W_group.data.toList n) := by
  obtain ⟨hk, _⟩ := List.getElem?_eq_some_iff.1 h
  unfold linesT
  rw [List.append_assoc, List.append_assoc, List.getElem?_append_left (by simpa using hk), List.getElem?_map, h]
  rfl
theorem line_t {p : Po} {k : Nat} {n : Nm} (h : p.tags[k]? = some n) : (linesT p)[p.groups.length + k]? = some (nmT W_tag.data.toList n) := by
  obtain ⟨hk, _⟩ := List.getElem?_eq_some_iff.1 h
  unfold linesT
  rw [List.append_assoc, List.append_assoc, List.getElem?_append_right (by simp), List.getElem?_append_left (by simp; omega), List.length_map, Nat.add_sub_cancel_left, List.getElem?_map, h]
  rfl
theorem line_h {p : Po} {k : Nat} {n : Hs} (h : p.hosts[k]? = some n) : (linesT p)[p.groups.length + p.tags.length + k]? = some (hsT n) := by
  obtain ⟨hk, _⟩ := List.getElem?_eq_some_iff.1 h
  unfold linesT
  rw [List.append_assoc (_ ++ _), List.getElem?_append_right (by simp), List.getElem?_append_left (by simp; omega), List.length_append, List.length_map, List.length_map, Nat.add_sub_cancel_left, List.getElem?_map, h]
  rfl
theorem line_a {p : Po} {k : Nat} {n : Ac} (h : p.acls[k]? = some n) : (linesT p)[p.groups.length + p.tags.length + p.hosts.length + k]? = some (aclT n) := by
  unfold linesT
  rw [List.getElem?_append_right (by simp; omega), List.length_append, List.length_append, List.length_map, List.length_map, List.length_map, Nat.add_sub_cancel_left, List.getElem?_map, h]
  rfl
end Go.Proofs.YthglckoikjfjkaaGreatDoor

/- The text of a policy (Text): the walk. -/
namespace Go.Proofs.YthglckoikjfjkaaGreatDoor
open Go.RowKit
attribute [local go_sem ↓] Go.wp_at_zero Go.wp_at_succ

def textR (p : Po) : Value := if mayP p = true then (if (textP p).length ≤ 8192 then .tuple #[.string (ofL (textP p)), .int .i64 0] else .tuple #[.string ⟨#[]⟩, .int .i64 4]) else .tuple #[.string ⟨#[]⟩, .int .i64 2]
theorem nm_cells (W nm : ByteArray) (ls : List ByteArray) : strCells (strs (nmT W.data.toList ⟨nm, ls⟩)) = [.string W, .string nm, .string ⟨#[61]⟩] ++ strCells ls := by
  unfold strCells strs nmT
  simp [List.map_map, Function.comp]
theorem hs_cells (nm : ByteArray) (f : Pf) : strCells (strs (hsT ⟨nm, f⟩)) = [.string ⟨#[104, 111, 115, 116]⟩, .string nm, .string ⟨#[61]⟩, .string (ptextB f)] := by
  unfold strCells strs hsT ptextB
  simp
  rfl
theorem isBuilder_lt {B b : Nat} {bs : List Value} {w : World} (h : Lib.IsBuilder 119 5 B b bs w) : b < w.heap.size := by
  rcases h with h | h <;> exact h.lt

theorem addr_add (g o j : Nat) : (⟨g, o, none⟩ : Addr).add j = ⟨g, o + j, none⟩ := by
  unfold Addr.add
  split
  · rename_i h; subst h; rfl
  · rfl

set_option maxHeartbeats 16000000 in
set_option maxRecDepth 100000 in
theorem policyText_any {w : World} (env : Env w) {V : PoV} {p : Po} (h : PoRd w V p) (hf : PoFit p) :
    Calls Tryz.prog 31 #[.agg #[V.g, V.t, V.h, V.a]] w (Got (textR p) w) := by
  obtain ⟨R, hR⟩ : ∃ r, r = textR p := ⟨_, rfl⟩
  rw [← hR]
  obtain ⟨MP, hMP⟩ : ∃ r, r = mayP p := ⟨_, rfl⟩
  have hsm : MP = true → PoSmall p := fun e => hf.small (hMP.symm.trans e)
  unfold textR at hR
  rw [← hMP] at hR
  have hmay := fun (u : World) (hu : Below w.heap.size w u) => may_any (env.below hu) (h.below hu) hf
  rw [← hMP] at hmay
  clear hMP
  have hrh := h.h
  obtain ⟨xg, hxg, hrg, hig⟩ := h.g
  obtain ⟨xt, hxt, hrt, hit⟩ := h.t
  obtain ⟨xs, hxs, hra, hin⟩ := h.a
  obtain ⟨Ag, cg, eg⟩ := hrg.shape
  obtain ⟨At, ct, et⟩ := hrt.shape
  obtain ⟨Ah, ch, eh⟩ := hrh.shape
  obtain ⟨Aa, ca, ea⟩ := hra.shape
  obtain ⟨gv, tv, hv, av⟩ := V
  simp only at eg et eh ea hrh hra hrg hrt hmay ⊢
  subst eg et eh ea
  obtain ⟨NG, hNG⟩ : ∃ n, n = p.groups.length := ⟨_, rfl⟩
  obtain ⟨NT, hNT⟩ : ∃ n, n = p.tags.length := ⟨_, rfl⟩
  obtain ⟨NH, hNH⟩ : ∃ n, n = p.hosts.length := ⟨_, rfl⟩
  obtain ⟨NA, hNA⟩ : ∃ n, n = p.acls.length := ⟨_, rfl⟩
  rw [← hNG] at hrg hmay ⊢
  rw [← hNT] at hrt hmay ⊢
  rw [← hNH] at hrh hmay ⊢
  rw [← hNA] at hra hmay ⊢
  have BP := Blk.new w 26 #[.slice Ag NG cg, .slice At NT ct, .slice Ah NH ch, .slice Aa NA ca]
  have b1 := boxed w (.cells #[.slice Ag NG cg, .slice At NT ct, .slice Ah NH ch, .slice Aa NA ca] 26)
  obtain ⟨i0, hi, hz0, hz1, hz2⟩ := info_parts info_str
  have HBP := Lib.hid BP
  have HB := Lib.hid b1
  have HMay := Lib.hid hmay
  have HRg := Lib.hid hrg
  have HRt := Lib.hid hrt
  have HRh := Lib.hid hrh
  have HRa := Lib.hid hra
  have HXg := Lib.hid hxg
  have HXt := Lib.hid hxt
  have HXs := Lib.hid hxs
  have HIg := Lib.hid hig
  have HIt := Lib.hid hit
  have HIn := Lib.hid hin
  have HNG := Lib.hid hNG
  have HNT := Lib.hid hNT
  have HNH := Lib.hid hNH
  have HNA := Lib.hid hNA
  have HR := Lib.hid hR
  have HSm := Lib.hid hsm
  have HEnv := Lib.hid env
  clear h hf hmay hrg hrt hrh hra hxg hxt hxs hig hit hin hNG hNT hNH hNA hR hsm BP b1 env
  go_enter Tryz.func31, Tryz.ntmps31
  go_upto_region 1 with fail
  generalize w.alloc (.cells #[.slice Ag NG cg, .slice At NT ct, .slice Ah NH ch, .slice Aa NA ca] 26) = w1 at HBP HB ⊢
  obtain ⟨QP, hQP⟩ : ∃ q, q = w.heap.size := ⟨_, rfl⟩
  rw [← hQP] at HBP ⊢
  have HQPe := Lib.hid hQP
  clear hQP
  have p0 := HBP.out.cell 0
  have p1 := HBP.out.cell 1
  have p2 := HBP.out.cell 2
  have p3 := HBP.out.cell 3
  simp at p0 p1 p2 p3
  have HMay' := Lib.hid (HMay.out _ HB.out)
  clear HMay
  cases MP with
  | false =>
    have hRf : R = .tuple #[.string ⟨#[]⟩, .int .i64 2] := by rw [HR.out]; rfl
    have HRf := Lib.hid hRf
    clear hRf
    go_wp2_with (go_at_call 59; (with_reducible refine HMay'.out.mono ?_); rintro r w2 ⟨rfl, d2⟩)
    go_ret2
    exact ⟨by rw [HRf.out]; rfl, after HB.out d2⟩
  | true =>
  have HS := Lib.hid (HSm.out rfl)
  have hR2 : R = if (textP p).length ≤ 8192 then .tuple #[.string (ofL (textP p)), .int .i64 0] else .tuple #[.string ⟨#[]⟩, .int .i64 4] := by rw [HR.out, if_pos rfl]
  have HR2 := Lib.hid hR2
  clear hR2 HR HSm
  go_upto_region 3 with (go_at_call 59; (with_reducible refine HMay'.out.mono ?_); rintro r w2 ⟨rfl, d2⟩)
  have HB2 := Lib.hid (after HB.out d2)
  have HQ2 := Lib.hid (HBP.out.below d2 HBP.out.lt)
  clear d2 HB HBP p0 p1 p2 p3 HMay'
  go_upto_region 4 with fail
  have I3 := Lib.fresh_isBuilder 119 5 w2
  have q3 := boxed w2 (.cells #[.pointer none, .slice none 0 0] 119)
  have HB3 := Lib.hid (after HB2.out q3)
  have HQ3 := Lib.hid (HQ2.out.below q3 HQ2.out.lt)
  have HQb := Lib.hid HQ2.out.lt
  have HWb := Lib.hid HB2.out.size
  have HI3 : RowKit.Hid (Lib.IsBuilder 119 5 w2.heap.size w2.heap.size (Lib.byteCells (atL p (0 + 0))) (w2.alloc (.cells #[.pointer none, .slice none 0 0] 119))) := Lib.hid I3
  clear I3 q3 HB2 HQ2
  generalize w2.alloc (.cells #[.pointer none, .slice none 0 0] 119) = w3 at HI3 HB3 HQ3 ⊢
  generalize w2.heap.size = b at HI3 HQb HWb ⊢
  have p0 := HQ3.out.cell 0
  simp at p0
  go_wp2_with fail
  clear p0
  go_loopw [21] (fun vi wr => ∃ k : Nat, k ≤ NG ∧ vi = .int .i64 (k : Int) ∧ RowKit.Hid (Lib.IsBuilder 119 5 b b (Lib.byteCells (atL p (0 + k))) wr) ∧ RowKit.Hid (Below w.heap.size w wr) ∧ RowKit.Hid (Blk wr QP 26 #[.slice Ag NG cg, .slice At NT ct, .slice Ah NH ch, .slice Aa NA ca])) (fun vi _ => NG - (intOf vi).toNat)
  case atStart => exact ⟨0, Nat.zero_le _, rfl, HI3, HB3, HQ3⟩
  case round =>
    clear HI3 HB3 HQ3
    obtain ⟨k, hk, rfl, HIr, HBr, HQr⟩ := hrel
    by_cases hlt : k < NG
    case pos =>
      have hkl : k < p.groups.length := by have := HNG.out; omega
      have hk64 : k < 64 := by have := HS.out.gl; have := HNG.out; omega
      have hlen := congrArg List.length HXg.out
      rw [List.length_map] at hlen
      obtain ⟨X, hX⟩ : ∃ X, xg[k]? = some X := ⟨_, List.getElem?_eq_getElem (by omega)⟩
      have hXl : p.groups[k]? = some X.1 := by rw [← HXg.out, List.getElem?_map, hX]; rfl
      obtain ⟨q, o, rfl, hc⟩ := HRg.out.cell HBr.out (by omega)
      have hcell := nmCells_at (xg.map nmPair) k (nmPair X) (by rw [List.getElem?_map, hX]; rfl)
      have d0 := hc _ _ hcell.1
      have d1 := hc _ _ hcell.2
      rw [← Nat.add_assoc] at d1
      have hXr := HIg.out X (List.mem_of_getElem? hX)
      have hXf := HS.out.g X.1 (List.mem_of_getElem? hXl)
      have hli := (Eq.trans (congrArg (fun j => (linesT p)[j]?) (Nat.zero_add k)) (line_g hXl))
      have hsu := atL_succ hli
      have hls := nm_line (W := W_group.data.toList) (by decide) hXf
      have hD := atL_len HS.out (0 + k)
      obtain ⟨⟨nm, ls⟩, lv⟩ := X
      unfold nmPair at d0 d1
      simp only at d0 d1 hXr hXf hsu hls
      obtain ⟨A2, c2, rfl⟩ := hXr.shape
      obtain ⟨q2, o2, rfl, hc2⟩ := hXr.cell HBr.out (by omega)
      have hcc := nm_cells W_group nm ls
      have hn2 : (strCells ls).length = ls.length := by simp [strCells]
      have h64 := hXf.2.2
      have HC2 := Lib.hid hc2
      have HSu := Lib.hid hsu
      have HLs := Lib.hid hls
      have HD := Lib.hid hD
      have HCc := Lib.hid hcc
      have hnl : 3 + ls.length = (nmT W_group.data.toList ⟨nm, ls⟩).length := by unfold nmT; simp; omega
      have HNl := Lib.hid hnl
      have HN2 := Lib.hid hn2
      generalize ls.length = n2 at d1 hXf h64 HN2 HNl
      clear hXr hXf hli hsu hls hD hc2 hcc hn2 hnl hXl hX hc hcell hlen hkl
      obtain ⟨wo, rfl⟩ : ∃ wo : World, wo = wr := ⟨_, rfl⟩
      go_upto_region 8 with fail
      have M1 := Lib.hid (Blk.new wo 56 #[.string nm, .slice (some ⟨q2, o2, none⟩) n2 c2])
      have q1 := boxed wo (.cells #[.string nm, .slice (some ⟨q2, o2, none⟩) n2 c2] 56)
      have HIa := Lib.hid (isBuilder_below HIr.out q1)
      have HBa := Lib.hid (after HBr.out q1)
      have HQa := Lib.hid (HQr.out.below q1 HQr.out.lt)
      have HCa : RowKit.Hid (∀ j u, (strCells ls)[j]? = some u → (wo.alloc (.cells #[.string nm, .slice (some ⟨q2, o2, none⟩) n2 c2] 56)).cell? ⟨q2, o2 + j, none⟩ = some u) := Lib.hid fun j u hu => (q1.cell (World.block_lt_of_cell? wo _ (HC2.out j u hu))).trans (HC2.out j u hu)
      generalize wo.alloc (.cells #[.string nm, .slice (some ⟨q2, o2, none⟩) n2 c2] 56) = wa at M1 q1 HIa HBa HQa HCa ⊢
      generalize wo.heap.size = M at M1 ⊢
      clear q1 HIr HBr HQr HC2 d0 d1
      have m0 := M1.out.cell 0
      simp at m0
      have m1 := (M1.out.alloc (.cells #[.string ⟨#[103, 114, 111, 117, 112]⟩, .string nm, .string ⟨#[61]⟩] 9)).cell 1
      simp at m1
      have o4 := World.ownsRow_lit (e := 9) (size := 1) (base := wa.heap.size) wa #[.string ⟨#[103, 114, 111, 117, 112]⟩, .string nm, .string ⟨#[61]⟩] 3 (Nat.le_refl _) (by unfold maxLen; omega) rfl
      have b4 := boxed wa (.cells #[.string ⟨#[103, 114, 111, 117, 112]⟩, .string nm, .string ⟨#[61]⟩] 9)
      have HO4 := Lib.hid o4
      have Hb4 := Lib.hid b4
      have HC4 : RowKit.Hid (∀ j u, (strCells ls)[j]? = some u → (wa.alloc (.cells #[.string ⟨#[103, 114, 111, 117, 112]⟩, .string nm, .string ⟨#[61]⟩] 9)).cell? ((⟨q2, o2, none⟩ : Addr).add j) = some u) := Lib.hid fun j u hu => by rw [addr_add]; exact (b4.cell (World.block_lt_of_cell? wa _ (HCa.out j u hu))).trans (HCa.out j u hu)
      clear o4 b4 HCa
      go_wp2_with (first
        | (at_builtin; refine wpList_append_own _ rfl _ _ 50 rfl wa.heap.size 9 i0 (.string ByteArray.empty) 1 16 Tryz.underlying50 hi hz0 hz1 hz2 rfl (by decide) _ 3 _ rfl HO4.out ⟨q2, o2, none⟩ n2 c2 (strCells ls) rfl (by rw [HN2.out, Nat.mul_one]) HC4.out (fun u hu => by unfold strCells at hu; obtain ⟨s, _, rfl⟩ := List.mem_map.1 hu; rfl) (by unfold maxLen; omega) (by omega) (by simp) ?_; intro v' w5 hown' hgrow hnil; obtain ⟨T5, c5, rfl⟩ := own_shape hown'; have HO5 := Lib.hid hown'; have Hb5 := Lib.hid (Hb4.out.grown hgrow (by simp) (fun q hq => (HO4.out.lt q hq).1)); have HI5 := Lib.hid (isBuilder_below HIa.out Hb5.out); have HB5 := Lib.hid (after HBa.out Hb5.out); have HQ5 := Lib.hid (HQa.out.below Hb5.out HQa.out.lt); clear hown' hgrow hnil)
        | (go_at_call 60; (refine (putLine_any (B := b) (b := b) (base := wa.heap.size) (w := w5) (atL p (0 + k)) (nmT W_group.data.toList ⟨nm, ls⟩) HNl.out (by rw [HCc.out]; exact HO5.out) HI5.out (Nat.le_trans HLs.out.len (by decide)) HLs.out.join HD.out (Nat.le_of_lt (isBuilder_lt HI5.out))).mono ?_); rintro r w6 ⟨rfl, i6, g6, k6⟩; have HI6 := Lib.hid i6; have HB6 := Lib.hid (HB5.out.trans (g6.mono HWb.out)); have HQ6 := Lib.hid (HQ5.out.below g6 HQb.out); clear i6 g6 k6))
      go_roundw
      case rel => exact ⟨k + 1, by omega, by go_num, Lib.hid (by rw [← Nat.add_assoc, HSu.out]; exact HI6.out), HB6, HQ6⟩
      case measure => simp [intOf]; omega
    obtain rfl : NG = k := by omega
    obtain ⟨wo, rfl⟩ : ∃ wo : World, wo = wr := ⟨_, rfl⟩
    have HI7 : RowKit.Hid (Lib.IsBuilder 119 5 b b (Lib.byteCells (atL p (p.groups.length + 0))) wo) := Lib.hid (by have := HIr.out; rw [HNG.out, Nat.zero_add] at this; exact this)
    clear HIr
    have HB7 := HBr
    have HQ7 := HQr
    have p1 := HQ7.out.cell 1
    simp at p1
    go_wp2_with fail
    clear p1
    go_loopw [37] (fun vi wr => ∃ k : Nat, k ≤ NT ∧ vi = .int .i64 (k : Int) ∧ RowKit.Hid (Lib.IsBuilder 119 5 b b (Lib.byteCells (atL p (p.groups.length + k))) wr) ∧ RowKit.Hid (Below w.heap.size w wr) ∧ RowKit.Hid (Blk wr QP 26 #[.slice Ag NG cg, .slice At NT ct, .slice Ah NH ch, .slice Aa NA ca])) (fun vi _ => NT - (intOf vi).toNat)
    case atStart => exact ⟨0, Nat.zero_le _, rfl, HI7, HB7, HQ7⟩
    case round =>
      clear HI7 HB7 HQ7
      obtain ⟨k, hk, rfl, HIr, HBr, HQr⟩ := hrel
      by_cases hlt : k < NT
      case pos =>
        have hkl : k < p.tags.length := by have := HNT.out; omega
        have hk64 : k < 64 := by have := HS.out.tl; have := HNT.out; omega
        have hlen := congrArg List.length HXt.out
        rw [List.length_map] at hlen
        obtain ⟨X, hX⟩ : ∃ X, xt[k]? = some X := ⟨_, List.getElem?_eq_getElem (by omega)⟩
        have hXl : p.tags[k]? = some X.1 := by rw [← HXt.out, List.getElem?_map, hX]; rfl
        obtain ⟨q, o, rfl, hc⟩ := HRt.out.cell HBr.out (by omega)
        have hcell := nmCells_at (xt.map nmPair) k (nmPair X) (by rw [List.getElem?_map, hX]; rfl)
        have d0 := hc _ _ hcell.1
        have d1 := hc _ _ hcell.2
        rw [← Nat.add_assoc] at d1
        have hXr := HIt.out X (List.mem_of_getElem? hX)
        have hXf := HS.out.t X.1 (List.mem_of_getElem? hXl)
        have hli := (line_t hXl)
        have hsu := atL_succ hli
        have hls := nm_line (W := W_tag.data.toList) (by decide) hXf
        have hD := atL_len HS.out (p.groups.length + k)
        obtain ⟨⟨nm, ls⟩, lv⟩ := X
        unfold nmPair at d0 d1
        simp only at d0 d1 hXr hXf hsu hls
        obtain ⟨A2, c2, rfl⟩ := hXr.shape
        obtain ⟨q2, o2, rfl, hc2⟩ := hXr.cell HBr.out (by omega)
        have hcc := nm_cells W_tag nm ls
        have hn2 : (strCells ls).length = ls.length := by simp [strCells]
        have h64 := hXf.2.2
        have HC2 := Lib.hid hc2
        have HSu := Lib.hid hsu
        have HLs := Lib.hid hls
        have HD := Lib.hid hD
        have HCc := Lib.hid hcc
        have hnl : 3 + ls.length = (nmT W_tag.data.toList ⟨nm, ls⟩).length := by unfold nmT; simp; omega
        have HNl := Lib.hid hnl
        have HN2 := Lib.hid hn2
        generalize ls.length = n2 at d1 hXf h64 HN2 HNl
        clear hXr hXf hli hsu hls hD hc2 hcc hn2 hnl hXl hX hc hcell hlen hkl
        obtain ⟨wo, rfl⟩ : ∃ wo : World, wo = wr := ⟨_, rfl⟩
        go_upto_region 13 with fail
        have M1 := Lib.hid (Blk.new wo 56 #[.string nm, .slice (some ⟨q2, o2, none⟩) n2 c2])
        have q1 := boxed wo (.cells #[.string nm, .slice (some ⟨q2, o2, none⟩) n2 c2] 56)
        have HIa := Lib.hid (isBuilder_below HIr.out q1)
        have HBa := Lib.hid (after HBr.out q1)
        have HQa := Lib.hid (HQr.out.below q1 HQr.out.lt)
        have HCa : RowKit.Hid (∀ j u, (strCells ls)[j]? = some u → (wo.alloc (.cells #[.string nm, .slice (some ⟨q2, o2, none⟩) n2 c2] 56)).cell? ⟨q2, o2 + j, none⟩ = some u) := Lib.hid fun j u hu => (q1.cell (World.block_lt_of_cell? wo _ (HC2.out j u hu))).trans (HC2.out j u hu)
        generalize wo.alloc (.cells #[.string nm, .slice (some ⟨q2, o2, none⟩) n2 c2] 56) = wa at M1 q1 HIa HBa HQa HCa ⊢
        generalize wo.heap.size = M at M1 ⊢
        clear q1 HIr HBr HQr HC2 d0 d1
        have m0 := M1.out.cell 0
        simp at m0
        have m1 := (M1.out.alloc (.cells #[.string ⟨#[116, 97, 103]⟩, .string nm, .string ⟨#[61]⟩] 9)).cell 1
        simp at m1
        have o4 := World.ownsRow_lit (e := 9) (size := 1) (base := wa.heap.size) wa #[.string ⟨#[116, 97, 103]⟩, .string nm, .string ⟨#[61]⟩] 3 (Nat.le_refl _) (by unfold maxLen; omega) rfl
        have b4 := boxed wa (.cells #[.string ⟨#[116, 97, 103]⟩, .string nm, .string ⟨#[61]⟩] 9)
        have HO4 := Lib.hid o4
        have Hb4 := Lib.hid b4
        have HC4 : RowKit.Hid (∀ j u, (strCells ls)[j]? = some u → (wa.alloc (.cells #[.string ⟨#[116, 97, 103]⟩, .string nm, .string ⟨#[61]⟩] 9)).cell? ((⟨q2, o2, none⟩ : Addr).add j) = some u) := Lib.hid fun j u hu => by rw [addr_add]; exact (b4.cell (World.block_lt_of_cell? wa _ (HCa.out j u hu))).trans (HCa.out j u hu)
        clear o4 b4 HCa
        go_wp2_with (first
          | (at_builtin; refine wpList_append_own _ rfl _ _ 50 rfl wa.heap.size 9 i0 (.string ByteArray.empty) 1 16 Tryz.underlying50 hi hz0 hz1 hz2 rfl (by decide) _ 3 _ rfl HO4.out ⟨q2, o2, none⟩ n2 c2 (strCells ls) rfl (by rw [HN2.out, Nat.mul_one]) HC4.out (fun u hu => by unfold strCells at hu; obtain ⟨s, _, rfl⟩ := List.mem_map.1 hu; rfl) (by unfold maxLen; omega) (by omega) (by simp) ?_; intro v' w5 hown' hgrow hnil; obtain ⟨T5, c5, rfl⟩ := own_shape hown'; have HO5 := Lib.hid hown'; have Hb5 := Lib.hid (Hb4.out.grown hgrow (by simp) (fun q hq => (HO4.out.lt q hq).1)); have HI5 := Lib.hid (isBuilder_below HIa.out Hb5.out); have HB5 := Lib.hid (after HBa.out Hb5.out); have HQ5 := Lib.hid (HQa.out.below Hb5.out HQa.out.lt); clear hown' hgrow hnil)
          | (go_at_call 60; (refine (putLine_any (B := b) (b := b) (base := wa.heap.size) (w := w5) (atL p (p.groups.length + k)) (nmT W_tag.data.toList ⟨nm, ls⟩) HNl.out (by rw [HCc.out]; exact HO5.out) HI5.out (Nat.le_trans HLs.out.len (by decide)) HLs.out.join HD.out (Nat.le_of_lt (isBuilder_lt HI5.out))).mono ?_); rintro r w6 ⟨rfl, i6, g6, k6⟩; have HI6 := Lib.hid i6; have HB6 := Lib.hid (HB5.out.trans (g6.mono HWb.out)); have HQ6 := Lib.hid (HQ5.out.below g6 HQb.out); clear i6 g6 k6))
        go_roundw
        case rel => exact ⟨k + 1, by omega, by go_num, Lib.hid (by rw [← Nat.add_assoc, HSu.out]; exact HI6.out), HB6, HQ6⟩
        case measure => simp [intOf]; omega
      obtain rfl : NT = k := by omega
      obtain ⟨wo2, rfl⟩ : ∃ wo2 : World, wo2 = wr := ⟨_, rfl⟩
      have HI8 : RowKit.Hid (Lib.IsBuilder 119 5 b b (Lib.byteCells (atL p (p.groups.length + p.tags.length + 0))) wo2) := Lib.hid (by have := HIr.out; rw [HNT.out] at this; exact this)
      clear HIr
      have HB8 := HBr
      have HQ8 := HQr
      have p2 := HQ8.out.cell 2
      simp at p2
      go_wp2_with fail
      clear p2
      go_loopw [53] (fun vi wr => ∃ k : Nat, k ≤ NH ∧ vi = .int .i64 (k : Int) ∧ RowKit.Hid (Lib.IsBuilder 119 5 b b (Lib.byteCells (atL p (p.groups.length + p.tags.length + k))) wr) ∧ RowKit.Hid (Below w.heap.size w wr) ∧ RowKit.Hid (Blk wr QP 26 #[.slice Ag NG cg, .slice At NT ct, .slice Ah NH ch, .slice Aa NA ca])) (fun vi _ => NH - (intOf vi).toNat)
      case atStart => exact ⟨0, Nat.zero_le _, rfl, HI8, HB8, HQ8⟩
      case round =>
        clear HI8 HB8 HQ8
        obtain ⟨k, hk, rfl, HIr, HBr, HQr⟩ := hrel
        by_cases hlt : k < NH
        case pos =>
          have hkl : k < p.hosts.length := by have := HNH.out; omega
          have hk64 : k < 64 := by have := HS.out.hl; have := HNH.out; omega
          obtain ⟨q, o, rfl, hc⟩ := HRh.out.cell HBr.out (by omega)
          have hXl : p.hosts[k]? = some p.hosts[k] := List.getElem?_eq_getElem hkl
          have hXf := HS.out.h _ (List.getElem_mem hkl)
          generalize p.hosts[k] = X at hXl hXf
          obtain ⟨e0, e1, e2, e3, e4⟩ := hsCells_at p.hosts k X hXl
          have d0 := hc _ _ e0
          have d1 := hc _ _ e1
          have d2 := hc _ _ e2
          have d3 := hc _ _ e3
          have d4 := hc _ _ e4
          rw [← Nat.add_assoc] at d1 d2 d3 d4
          have hsu := atL_succ (line_h hXl)
          have hls := hs_line hXf
          have hD := atL_len HS.out (p.groups.length + p.tags.length + k)
          have hpt := fun u (hu : Below w.heap.size w u) => prefixText_any (HEnv.out.below hu) X.net hXf.2
          obtain ⟨x1, ⟨⟨x2, x3, x4⟩, x5⟩⟩ := X
          unfold Pf.cells at hpt
          simp only at d0 d1 d2 d3 d4 hpt
          have hcc := hs_cells x1 ⟨⟨x2, x3, x4⟩, x5⟩
          generalize ptextB ⟨⟨x2, x3, x4⟩, x5⟩ = PT at hpt hcc
          have HPt := Lib.hid hpt
          have HCc := Lib.hid hcc
          have HSu := Lib.hid hsu
          have HLs := Lib.hid hls
          have HD := Lib.hid hD
          clear hXf hsu hls hD hcc hpt hXl hc e0 e1 e2 e3 e4 hkl
          obtain ⟨wo3, rfl⟩ : ∃ wo3 : World, wo3 = wr := ⟨_, rfl⟩
          go_upto_region 18 with fail
          have M1 := Lib.hid (Blk.new wo3 127 #[.string x1, .bool x2, .int .u64 (x3 : Int), .int .u64 (x4 : Int), .int .u8 (x5 : Int)])
          have q1 := boxed wo3 (.cells #[.string x1, .bool x2, .int .u64 (x3 : Int), .int .u64 (x4 : Int), .int .u8 (x5 : Int)] 127)
          have HIa := Lib.hid (isBuilder_below HIr.out q1)
          have HBa := Lib.hid (after HBr.out q1)
          have HQa := Lib.hid (HQr.out.below q1 HQr.out.lt)
          generalize wo3.alloc (.cells #[.string x1, .bool x2, .int .u64 (x3 : Int), .int .u64 (x4 : Int), .int .u8 (x5 : Int)] 127) = wa at M1 q1 HIa HBa HQa ⊢
          have HMb : RowKit.Hid (wo3.heap.size ≠ b) := Lib.hid (by have := isBuilder_lt HIr.out; omega)
          generalize wo3.heap.size = M at M1 HMb ⊢
          clear q1 HIr HBr HQr d0 d1 d2 d3 d4
          have m0 := M1.out.cell 0
          have m1 := M1.out.cell 1
          have m2 := M1.out.cell 2
          have m3 := M1.out.cell 3
          have m4 := M1.out.cell 4
          simp at m0 m1 m2 m3 m4
          refine wp_region_held_drew (S := (fun w' => w'.cell? ⟨M, 0, none⟩ = some (.string x1) ∧ w'.cell? ⟨M, 1, none⟩ = some (.bool x2) ∧ w'.cell? ⟨M, 2, none⟩ = some (.int .u64 (x3 : Int)) ∧ w'.cell? ⟨M, 3, none⟩ = some (.int .u64 (x4 : Int)) ∧ w'.cell? ⟨M, 4, none⟩ = some (.int .u8 (x5 : Int)))) (by kernel_rfl) (⟨m0, m1, m2, m3, m4⟩) (fun hHeld => ?_)
          refine' wpAnyH_take (i := 0) (v := _) rfl (by kernel_rfl) (by kernel_rfl) (by kernel_rfl) (fun _ _ _ h => h) (Or.inl ⟨by rfl, ?ly1⟩) (by assumption) ?lrest1
          case ly1 =>
            intro w hSw
            try dsimp only at hSw
            go_simp
            try with_reducible rfl
          try simp only [Act.put, List.setIfInBounds_toArray, List.set_cons_zero, List.set_cons_succ, List.getElem_toArray, List.getElem_cons_zero, List.getElem_cons_succ]
          refine' wpAnyH_take (i := 1) (v := _) rfl (by kernel_rfl) (by kernel_rfl) (by kernel_rfl) (fun _ _ _ h => h) (Or.inl ⟨by rfl, ?ly2⟩) (by assumption) ?lrest2
          case ly2 =>
            intro w hSw
            try dsimp only at hSw
            go_simp
            try with_reducible rfl
          try simp only [Act.put, List.setIfInBounds_toArray, List.set_cons_zero, List.set_cons_succ, List.getElem_toArray, List.getElem_cons_zero, List.getElem_cons_succ]
          refine' wpAnyH_take (i := 2) (v := _) rfl (by kernel_rfl) (by kernel_rfl) (by kernel_rfl) (fun _ _ _ h => h) (Or.inl ⟨by rfl, ?ly3⟩) (by assumption) ?lrest3
          case ly3 =>
            intro w hSw
            try dsimp only at hSw
            go_simp
            try with_reducible rfl
          try simp only [Act.put, List.setIfInBounds_toArray, List.set_cons_zero, List.set_cons_succ, List.getElem_toArray, List.getElem_cons_zero, List.getElem_cons_succ]
          refine' wpAnyH_take (i := 3) (v := _) rfl (by kernel_rfl) (by kernel_rfl) (by kernel_rfl) (fun _ _ _ h => h) (Or.inl ⟨by rfl, ?ly4⟩) (by assumption) ?lrest4
          case ly4 =>
            intro w hSw
            try dsimp only at hSw
            go_simp
            try with_reducible rfl
          try simp only [Act.put, List.setIfInBounds_toArray, List.set_cons_zero, List.set_cons_succ, List.getElem_toArray, List.getElem_cons_zero, List.getElem_cons_succ]
          refine' wpAnyH_take (i := 4) (v := _) rfl (by kernel_rfl) (by kernel_rfl) (by kernel_rfl) (fun _ _ _ h => h) (Or.inl ⟨by rfl, ?ly5⟩) (by assumption) ?lrest5
          case ly5 =>
            intro w hSw
            try dsimp only at hSw
            go_simp
            try with_reducible rfl
          try simp only [Act.put, List.setIfInBounds_toArray, List.set_cons_zero, List.set_cons_succ, List.getElem_toArray, List.getElem_cons_zero, List.getElem_cons_succ]
          refine wpAnyH_ready (rs := [5]) (by kernel_rfl) (by simp) ?_
          refine AllReadyH.cons rfl (fun K hK => ?_) AllReadyH.nil
          go_simp
          refine (HPt.out _ HBa.out.drew).mono ?_
          rintro r wb ⟨rfl, db⟩
          have eb : Below wa.heap.size wa wb := ⟨db.os, db.tape, db.output, db.size, db.block⟩
          have Mb := Lib.hid (M1.out.below eb M1.out.lt)
          have n0 := Mb.out.cell 0
          have n1 := Mb.out.cell 1
          have n2 := Mb.out.cell 2
          have n3 := Mb.out.cell 3
          have n4 := Mb.out.cell 4
          simp at n0 n1 n2 n3 n4
          have HIb := Lib.hid (isBuilder_below HIa.out eb)
          have HBb := Lib.hid (after HBa.out eb)
          have HQd := Lib.hid (HQa.out.below eb HQa.out.lt)
          refine hK.out _ _ (⟨n0, n1, n2, n3, n4⟩) (fun hHeld => ?_)
          clear hK K
          try simp only [Act.put, List.setIfInBounds_toArray, List.set_cons_zero, List.set_cons_succ, List.getElem_toArray, List.getElem_cons_zero, List.getElem_cons_succ]
          refine wpAnyH_ready (rs := [6]) (by kernel_rfl) (by simp) ?_
          refine AllReadyH.cons rfl (fun K hK => ?_) AllReadyH.nil
          go_simp
          have b6 := boxed wb (.cells #[.string ⟨#[104, 111, 115, 116]⟩, .string x1, .string ⟨#[61]⟩, .string PT] 9)
          have o6 := World.ownsRow_lit (e := 9) (size := 1) (base := wb.heap.size) wb #[.string ⟨#[104, 111, 115, 116]⟩, .string x1, .string ⟨#[61]⟩, .string PT] 4 (Nat.le_refl _) (by unfold maxLen; omega) rfl
          have Mc := Mb.out.below b6 Mb.out.lt
          have r0 := Mc.cell 0
          have r1 := Mc.cell 1
          have r2 := Mc.cell 2
          have r3 := Mc.cell 3
          have r4 := Mc.cell 4
          simp at r0 r1 r2 r3 r4
          have HIc := Lib.hid (isBuilder_below HIb.out b6)
          have HBc := Lib.hid (after HBb.out b6)
          have HQc := Lib.hid (HQd.out.below b6 HQd.out.lt)
          have HO6 := Lib.hid o6
          have HMc := Lib.hid Mc
          clear o6 b6 Mc
          refine hK.out _ _ (⟨r0, r1, r2, r3, r4⟩) (fun hHeld => ?_)
          clear hK K
          try simp only [Act.put, List.setIfInBounds_toArray, List.set_cons_zero, List.set_cons_succ, List.getElem_toArray, List.getElem_cons_zero, List.getElem_cons_succ]
          refine wpAnyH_ready (rs := [7]) (by kernel_rfl) (by simp) ?_
          refine AllReadyH.cons rfl (fun K hK => ?_) AllReadyH.nil
          go_simp
          refine (putLine_any (B := b) (b := b) (base := wb.heap.size) (atL p (p.groups.length + p.tags.length + k)) (hsT ⟨x1, ⟨⟨x2, x3, x4⟩, x5⟩⟩) (n := 4) rfl (by rw [HCc.out]; exact HO6.out) HIc.out (Nat.le_trans HLs.out.len (by decide)) HLs.out.join HD.out (Nat.le_of_lt (isBuilder_lt HIc.out))).mono ?_
          rintro r w6 ⟨rfl, i6, g6, k6⟩
          have HI6 := Lib.hid i6
          have HB6 := Lib.hid (HBc.out.trans (g6.mono HWb.out))
          have HQ6 := Lib.hid (HQc.out.below g6 HQb.out)
          have Mz := k6 _ _ _ HMc.out HMb.out (by decide)
          have z0 := Mz.cell 0
          have z1 := Mz.cell 1
          have z2 := Mz.cell 2
          have z3 := Mz.cell 3
          have z4 := Mz.cell 4
          simp at z0 z1 z2 z3 z4
          clear i6 g6 k6 Mz
          refine hK.out _ _ (⟨z0, z1, z2, z3, z4⟩) (fun hHeld => ?_)
          clear hK K
          try simp only [Act.put, List.setIfInBounds_toArray, List.set_cons_zero, List.set_cons_succ, List.getElem_toArray, List.getElem_cons_zero, List.getElem_cons_succ]
          refine wpAnyH_done (by kernel_rfl) ?_ _
          go_wp2_with fail
          go_roundw
          case rel => exact ⟨k + 1, by omega, by go_num, Lib.hid (by rw [← Nat.add_assoc, HSu.out]; exact HI6.out), HB6, HQ6⟩
          case measure => simp [intOf]; omega
        obtain rfl : NH = k := by omega
        obtain ⟨wo4, rfl⟩ : ∃ wo4 : World, wo4 = wr := ⟨_, rfl⟩
        have HI9 : RowKit.Hid (Lib.IsBuilder 119 5 b b (Lib.byteCells (atL p (p.groups.length + p.tags.length + p.hosts.length + 0))) wo4) := Lib.hid (by have := HIr.out; rw [HNH.out] at this; exact this)
        clear HIr
        have HB9 := HBr
        have HQ9 := HQr
        have p3 := HQ9.out.cell 3
        simp at p3
        go_wp2_with fail
        clear p3
        go_loopw [69] (fun vi wr => ∃ k : Nat, k ≤ NA ∧ vi = .int .i64 (k : Int) ∧ RowKit.Hid (Lib.IsBuilder 119 5 b b (Lib.byteCells (atL p (p.groups.length + p.tags.length + p.hosts.length + k))) wr) ∧ RowKit.Hid (Below w.heap.size w wr) ∧ RowKit.Hid (Blk wr QP 26 #[.slice Ag NG cg, .slice At NT ct, .slice Ah NH ch, .slice Aa NA ca])) (fun vi _ => NA - (intOf vi).toNat)
        case atStart => exact ⟨0, Nat.zero_le _, rfl, HI9, HB9, HQ9⟩
        case round =>
          clear HI9 HB9 HQ9
          obtain ⟨k, hk, rfl, HIr, HBr, HQr⟩ := hrel
          by_cases hlt : k < NA
          case pos =>
            have hkl : k < p.acls.length := by have := HNA.out; omega
            have hk64 : k < 64 := by have := HS.out.al; have := HNA.out; omega
            have hlen := congrArg List.length HXs.out
            rw [List.length_map] at hlen
            obtain ⟨X, hX⟩ : ∃ X, xs[k]? = some X := ⟨_, List.getElem?_eq_getElem (by omega)⟩
            have hXl : p.acls[k]? = some X.a := by rw [← HXs.out, List.getElem?_map, hX]; rfl
            obtain ⟨q, o, rfl, hc⟩ := HRa.out.cell HBr.out (by omega)
            obtain ⟨e0, e1, e2, e3⟩ := acCells_at xs k X hX
            have d0 := hc _ _ e0
            have d1 := hc _ _ e1
            have d2 := hc _ _ e2
            have d3 := hc _ _ e3
            rw [← Nat.add_assoc] at d1 d2 d3
            have hxm := HIn.out X (List.mem_of_getElem? hX)
            have hXf := HS.out.a X.a (List.mem_of_getElem? hXl)
            have hsu := atL_succ (line_a hXl)
            have hls := ac_line hXf
            have hD := atL_len HS.out (p.groups.length + p.tags.length + p.hosts.length + k)
            obtain ⟨A1, c1, f1⟩ := hxm.p.shape
            obtain ⟨A2, c2, f2⟩ := hxm.s.shape
            obtain ⟨A3, c3, f3⟩ := hxm.d.shape
            obtain ⟨A4, c4, f4⟩ := hxm.o.shape
            have hcall := fun u (hu : Below w.heap.size w u) => aclText_any (HEnv.out.below hu) X (hxm.below hu) hXf
            obtain ⟨a, pv, sv, dv, ov⟩ := X
            simp only at d0 d1 d2 d3 f1 f2 f3 f4 hcall hsu hls
            generalize a.protos.length = l1 at f1
            generalize a.src.length = l2 at f2
            generalize a.dst.length = l3 at f3
            generalize a.ports.length = l4 at f4
            subst f1 f2 f3 f4
            have HCall := Lib.hid hcall
            have HSu := Lib.hid hsu
            have HLs := Lib.hid hls
            have HD := Lib.hid hD
            clear hcall hsu hls hD hXl e0 e1 e2 e3 hc hX hxm hXf hlen hkl
            obtain ⟨wo5, rfl⟩ : ∃ wo5 : World, wo5 = wr := ⟨_, rfl⟩
            go_upto_region 23 with fail
            have M1 := Lib.hid (Blk.new wo5 61 #[.slice A1 l1 c1, .slice A2 l2 c2, .slice A3 l3 c3, .slice A4 l4 c4])
            have q1 := boxed wo5 (.cells #[.slice A1 l1 c1, .slice A2 l2 c2, .slice A3 l3 c3, .slice A4 l4 c4] 61)
            have HIa := Lib.hid (isBuilder_below HIr.out q1)
            have HBa := Lib.hid (after HBr.out q1)
            have HQa := Lib.hid (HQr.out.below q1 HQr.out.lt)
            generalize wo5.alloc (.cells #[.slice A1 l1 c1, .slice A2 l2 c2, .slice A3 l3 c3, .slice A4 l4 c4] 61) = wa at M1 q1 HIa HBa HQa ⊢
            generalize wo5.heap.size = M at M1 ⊢
            clear q1 HIr HBr HQr d0 d1 d2 d3
            have m0 := M1.out.cell 0
            have m1 := M1.out.cell 1
            have m2 := M1.out.cell 2
            have m3 := M1.out.cell 3
            simp at m0 m1 m2 m3
            go_wp2_with (first
              | (go_at_call 64; (with_reducible refine (HCall.out _ HBa.out).mono ?_); rintro r w5 ⟨⟨v5, rfl, o5⟩, g5⟩; obtain ⟨T5, c5, rfl⟩ := own_shape o5; have HO5 := Lib.hid o5; have HI5 := Lib.hid (isBuilder_below HIa.out g5); have HB5 := Lib.hid (after HBa.out g5); have HQ5 := Lib.hid (HQa.out.below g5 HQa.out.lt); clear o5 g5)
              | (go_at_call 60; (refine (putLine_any (B := b) (b := b) (base := wa.heap.size) (w := w5) (atL p (p.groups.length + p.tags.length + p.hosts.length + k)) (aclT a) rfl HO5.out HI5.out (Nat.le_trans HLs.out.len (by decide)) HLs.out.join HD.out (Nat.le_of_lt (isBuilder_lt HI5.out))).mono ?_); rintro r w6 ⟨rfl, i6, g6, k6⟩; have HI6 := Lib.hid i6; have HB6 := Lib.hid (HB5.out.trans (g6.mono HWb.out)); have HQ6 := Lib.hid (HQ5.out.below g6 HQb.out); clear i6 g6 k6))
            go_roundw
            case rel => exact ⟨k + 1, by omega, by go_num, Lib.hid (by rw [← Nat.add_assoc, HSu.out]; exact HI6.out), HB6, HQ6⟩
            case measure => simp [intOf]; omega
          obtain rfl : NA = k := by omega
          have hI := HIr.out
          rw [atL_all p (by rw [lines_len]; have := HNA.out; omega)] at hI
          have hlt := isBuilder_lt hI
          have hL := Tryz.Builder_Len b b _ wr hI
          have hSt := Tryz.Builder_String_any b b _ wr hI (Nat.le_of_lt hlt)
          rw [Lib.byteCells_length] at hL
          have hofl : ofL (textP p) = ⟨(textP p).toArray⟩ := rfl
          have hR := HR2.out
          rw [hofl] at hR
          generalize (⟨(textP p).toArray⟩ : ByteArray) = TB at hR hSt
          generalize (textP p).length = TL at hR hL
          have HL := Lib.hid hL
          have HSt := Lib.hid hSt
          by_cases hTL : TL ≤ 8192
          · rw [if_pos hTL] at hR
            have HR := Lib.hid hR
            have hz : ¬ (8192 : Int) < (TL : Int) := by omega
            clear hR hI hL hSt HR2 hlt hofl hTL
            go_wp2_with (first
              | (go_at_call 65; (with_reducible refine HL.out.mono ?_); rintro r w2 ⟨rfl, rfl⟩)
              | (go_at_call 66; (with_reducible refine HSt.out.mono ?_); rintro r w6 ⟨rfl, g6⟩; have HB6 := Lib.hid (HBr.out.trans (g6.mono HWb.out))))
            go_ret2
            exact ⟨by rw [HR.out]; rfl, HB6.out⟩
          · rw [if_neg hTL] at hR
            have HR := Lib.hid hR
            have hz : (8192 : Int) < (TL : Int) := by omega
            clear hR hI hL hSt HR2 hlt hofl hTL
            go_wp2_with (go_at_call 65; (with_reducible refine HL.out.mono ?_); rintro r w2 ⟨rfl, rfl⟩)
            go_ret2
            exact ⟨by rw [HR.out]; rfl, HBr.out⟩
end Go.Proofs.YthglckoikjfjkaaGreatDoor

/- One line of a policy, by its first word: the walks. -/
namespace Go.Proofs.YthglckoikjfjkaaGreatDoor
open Go.RowKit
attribute [local go_sem ↓] Go.wp_at_zero Go.wp_at_succ

theorem below_drew (w : World) : Below w.heap.size w w.drew := ⟨rfl, rfl, rfl, Nat.le_refl _, fun _ _ => rfl⟩
theorem Env.drew {w : World} (h : Env w) : Env w.drew := h.below (below_drew w)
def ErrP {α : Type} (w' : World) (P : Nat) (o : Except Bad α) : Prop := ∀ e, o = .error e → ∃ p0 p1 p2 p3, Blk w' P 26 #[p0, p1, p2, p3]
theorem ErrP.map {α β : Type} {o : Except Bad α} {f : α → β} {w' : World} {P : Nat} (h : ErrP w' P o) : ErrP w' P (o.map f) := by
  intro e he
  cases o with
  | error e' => exact h e' rfl
  | ok x => cases he
theorem own_at {w : World} {base size n : Nat} {e : TypeId} {v : Value} {xs : List Value} {g : Nat} (h : w.ownsRow base e size v n xs) (hg : v.ownBlock = some g) : base ≤ g ∧ g < w.heap.size ∧ ∃ cur fz, w.heap[g]? = some (.cells cur e fz) := by
  obtain ⟨cur, e2, fz, h1, h2⟩ := ownOff h g hg
  rw [List.mem_singleton.1 h2] at h1
  exact ⟨(h.lt g hg).1, (h.lt g hg).2, cur, fz, h1⟩
theorem NmRow.own {w : World} {base : Nat} {v : Value} {l : List Nm} (h : NmRow w base v l) {g : Nat} (hg : v.ownBlock = some g) : base ≤ g ∧ g < w.heap.size ∧ ∃ cur fz, w.heap[g]? = some (.cells cur 56 fz) := by
  obtain ⟨xs, _, ho, _⟩ := h
  exact own_at ho hg
theorem AcRow.own {w : World} {base : Nat} {v : Value} {l : List Ac} (h : AcRow w base v l) {g : Nat} (hg : v.ownBlock = some g) : base ≤ g ∧ g < w.heap.size ∧ ∃ cur fz, w.heap[g]? = some (.cells cur 61 fz) := by
  obtain ⟨xs, _, ho, _⟩ := h
  exact own_at ho hg
end Go.Proofs.YthglckoikjfjkaaGreatDoor

/- A policy is read (Parse): what its walk wants. -/
namespace Go.Proofs.YthglckoikjfjkaaGreatDoor
open Go.RowKit
attribute [local go_sem ↓] Go.wp_at_zero Go.wp_at_succ

theorem load4 {w : World} {g : Nat} {v0 v1 v2 v3 : Value} (h : Blk w g 26 #[v0, v1, v2, v3]) : (loadVar 26 ⟨g, 0, none⟩).run Tryz.prog w = .ok (.agg #[v0, v1, v2, v3]) w := by
  have c0 := h.cell 0
  have c1 := h.cell 1
  have c2 := h.cell 2
  have c3 := h.cell 3
  simp at c0 c1 c2 c3
  simp [loadVar, go_sem, c0, c1, c2, c3]
/- What Parse hands back. -/
def ParseGot (s : List UInt8) (w : World) (r : Ending) (w' : World) : Prop := (∃ V : PoV, r = .returned (.tuple #[.agg #[V.g, V.t, V.h, V.a], .agg #[.int .i64 ((parseP s).2.1 : Int), .int .i64 ((parseP s).2.2.1 : Int), .int .i64 ((parseP s).2.2.2 : Int)]]) ∧ PoRd w' V (parseP s).1) ∧ Below w.heap.size w w'
theorem NmRd.nil (w : World) : NmRd w (.slice none 0 0) [] := ⟨[], rfl, RowR.empty _ _, fun x hx => by cases hx⟩
theorem AcRd.nil (w : World) : AcRd w (.slice none 0 0) [] := ⟨[], rfl, RowR.empty _ _, fun x hx => by cases hx⟩
theorem PoRd.zero (w : World) : PoRd w ⟨.slice none 0 0, .slice none 0 0, .slice none 0 0, .slice none 0 0⟩ Po.zero := ⟨NmRd.nil w, NmRd.nil w, RowR.empty w 5, AcRd.nil w⟩
theorem ParseGot.bad {s : List UInt8} {w w' : World} {e n i : Nat} (h : parseP s = (Po.zero, (e, n, i))) (hb : Below w.heap.size w w') : ParseGot s w (.returned (.tuple #[.agg #[.slice none 0 0, .slice none 0 0, .slice none 0 0, .slice none 0 0], .agg #[.int .i64 (e : Int), .int .i64 (n : Int), .int .i64 (i : Int)]])) w' := by
  unfold ParseGot
  rw [h]
  exact ⟨⟨⟨.slice none 0 0, .slice none 0 0, .slice none 0 0, .slice none 0 0⟩, rfl, PoRd.zero w'⟩, hb⟩
theorem ParseGot.good {s : List UInt8} {w w' : World} {p : Po} {V : PoV} (h : parseP s = (p, (0, 0, 0))) (hr : PoRd w' V p) (hb : Below w.heap.size w w') : ParseGot s w (.returned (.tuple #[.agg #[V.g, V.t, V.h, V.a], .agg #[.int .i64 0, .int .i64 0, .int .i64 0]])) w' := by
  unfold ParseGot
  rw [h]
  exact ⟨⟨V, rfl, hr⟩, hb⟩
/- The rows of a policy, apart from the rest. -/
theorem NmRow.off {S : Nat → Prop} {w w' : World} {T : List TypeId} {base : Nat} {v : Value} {l : List Nm} (h : NmRow w base v l) (hk : Keeps S w w') (ho : Off S w T) (h0 : 56 ∉ T) (h1 : 9 ∉ T) : NmRow w' base v l := by
  obtain ⟨xs, e, ha, hb⟩ := h
  exact ⟨xs, e, own_off ha hk ho h0, fun x hx => own_off (hb x hx) hk ho h1⟩
structure PmR (base : Nat) (w : World) (V : PoV) (p : Po) : Prop where
  g : NmRow w base V.g p.groups
  t : NmRow w base V.t p.tags
  h : w.ownsRow base 127 5 V.h p.hosts.length (hsCells p.hosts)
  a : AcRow w base V.a p.acls
theorem PmR.below {base : Nat} {w w' : World} {V : PoV} {p : Po} (m : PmR base w V p) (hb : Below w.heap.size w w') : PmR base w' V p := ⟨m.g.below hb, m.t.below hb, own_below m.h hb, m.a.below hb⟩
theorem PmR.off {S : Nat → Prop} {T : List TypeId} {base : Nat} {w w' : World} {V : PoV} {p : Po} (m : PmR base w V p) (hk : Keeps S w w') (ho : Off S w T) (h0 : 56 ∉ T) (h1 : 9 ∉ T) (h2 : 127 ∉ T) (h3 : 61 ∉ T) (h4 : 5 ∉ T) (h5 : 66 ∉ T) (h6 : 68 ∉ T) : PmR base w' V p :=
  ⟨m.g.off hk ho h0 h1, m.t.off hk ho h0 h1, own_off m.h hk ho h2, m.a.off hk ho h3 h4 h5 h6⟩
theorem PmR.rd {base : Nat} {w : World} {V : PoV} {p : Po} (m : PmR base w V p) : PoRd w V p := ⟨m.g.rd, m.t.rd, RowR.of_own m.h, m.a.rd⟩
end Go.Proofs.YthglckoikjfjkaaGreatDoor
