/- Joined out of: PxL PzA PzC. -/
import Derived.Test.YthglckoikjfjkaaGreatDoorSak
import Derived.Test.YthglckoikjfjkaaGreatDoorRows
import Derived.Test.YthglckoikjfjkaaGreatDoorTie
import Derived.Test.YthglckoikjfjkaaGreatDoorCards
import Derived.WalkKit
import Derived.ProofKit
import Derived.OpenShut
import Derived.ShutString
import Derived.ChangeMaps5
import Derived.HandedShaped
import Derived.LaidMore
import Derived.Lay
import Derived.SevenTiedAt
import Derived.Shelf.Vars
import Derived.Lib.LaidU8
import Derived.Test.YthglckoikjfjkaaGreatDoorSai
import Derived.Deep.Slices
set_option linter.unusedVariables false
set_option linter.unusedSimpArgs false

/- What is read fits; the known run (works): the walk. -/
namespace Go.Proofs.YthglckoikjfjkaaGreatDoor
open Go.RowKit
attribute [local go_sem ↓] Go.wp_at_zero Go.wp_at_succ

theorem label_size {s : ByteArray} (h : labelB s = true) : s.size ≤ 33 := by
  have e : s.size = s.data.toList.length := by rw [Array.length_toList]; rfl
  unfold labelB at h
  generalize s.data.toList = l at h e
  cases l with
  | nil => rw [e]; decide
  | cons c r =>
    unfold labelL at h
    simp only [Bool.and_eq_true, decide_eq_true_eq] at h
    simp only [List.length_cons] at e
    omega
theorem kindN_le (k : List UInt8) : kindN k ≤ 6 := by
  unfold kindN
  repeat' split
  all_goals decide
theorem sel_fit {w : ByteArray} {s : Sel} (h : selP w = some s) : SelFit s := by
  have hz : Pf.zero.Ok := ⟨⟨by decide, by decide⟩, by decide⟩
  cases selP_is h with
  | star h1 h2 => subst h2; exact ⟨hz, by decide, by decide⟩
  | named k nm h0 h1 h2 h3 h4 =>
    subst h4
    have h5 : labelB (ofL nm) = true := h3
    have := label_size h5
    exact ⟨hz, Nat.lt_of_le_of_lt (kindN_le k) (by decide), Nat.le_trans this (by decide)⟩
  | net k t n h0 h1 h2 h3 => subst h3; exact ⟨(preadL_some h2).2.1, (by show (6 : Nat) < 256; decide), (by show (0 : Nat) ≤ 1900000; decide)⟩
theorem PoOk.fit {p : Po} (ok : PoOk p) (hm : mayP p = true) : PoFit p := by
  obtain ⟨m1, m2, m3, m4, m5, m6, m7⟩ := mayP_ok hm
  have hnm : ∀ l : List Nm, mayNm l = true → (∀ n ∈ l, NmFit n) ∧ l.length ≤ 64 := by
    intro l hl
    unfold mayNm at hl
    simp only [Bool.and_eq_true, decide_eq_true_eq] at hl
    refine ⟨fun n hn => ?_, hl.1.2⟩
    have := List.all_eq_true.1 hl.1.1 n hn
    simp only [Bool.and_eq_true, decide_eq_true_eq] at this
    exact ⟨Nat.le_trans (label_size this.1.1.1) (by decide), by omega, fun s hs => Nat.le_trans (label_size (List.all_eq_true.1 this.2 s hs)) (by decide)⟩
  obtain ⟨g1, g2⟩ := hnm _ m1
  obtain ⟨t1, t2⟩ := hnm _ m2
  refine ⟨g1, t1, fun x hx => ⟨Nat.le_trans (label_size (m5 x hx).1) (by decide), ok.hosts x hx⟩, fun a ha => ?_, by omega, by omega, by omega, by omega⟩
  have h := m6 a ha
  unfold mayAc at h
  simp only [Bool.and_eq_true, decide_eq_true_eq] at h
  obtain ⟨⟨⟨⟨⟨h1, h2⟩, h3⟩, h4⟩, h5⟩, h6⟩ := h
  obtain ⟨s1, s2, s3⟩ := maySels_ok h5
  obtain ⟨d1, d2, d3⟩ := maySels_ok h6
  refine ⟨fun s hs => sel_fit (s1 s hs).1, fun s hs => sel_fit (d1 s hs).1, Nat.le_trans (rising_small _ h2 h3) (by decide), by omega, by omega, by omega, fun x hx => ?_, ok.ports a ha⟩
  have := List.all_eq_true.1 h2 x hx
  simp only [Bool.or_eq_true, decide_eq_true_eq] at this
  omega

end Go.Proofs.YthglckoikjfjkaaGreatDoor

/- The frame of the policy laws: what the rows list, as what the walks ask for. -/
namespace Go.Proofs.YthglckoikjfjkaaGreatDoor
open Go.ChangeShapes Go.WideShapes Go.ChangeAt Go.RowKit

theorem tab_of {P : Program} {W : World} {name : String} {k : IntKind} {zs : List Int} {g : Nat} {t e : TypeId} {n : Nat}
    (hg : P.globalNamed name = some g) (hty : (P.globals[g]?).map (·.type) = some t) (ht : P.underlying t = some (.array n e)) (he : P.underlying e = some (.int k)) (hce : P.cellsOf e = 1) (hct : P.cellsOf t = n)
    (h : Lib.VarReads P W name (Lib.tabData k zs)) : Lib.TabIs P W name k zs := by
  obtain ⟨g', t', cs, fuel, p, hg', ht', hvar, hd⟩ := h
  obtain rfl := Option.some.inj (hg.symm.trans hg')
  obtain rfl := Option.some.inj (hty.symm.trans ht')
  unfold Lib.TabIs
  rw [hvar, ← Lib.cells_of_tab ht he hce hct hd]
theorem iface_of {P : Program} {W : World} {name nm : String} {d : DataW Unit} {g : Nat} {t : TypeId} {ms : Array (String × TypeId)}
    (hg : P.globalNamed name = some g) (hty : (P.globals[g]?).map (·.type) = some t) (ht : P.underlying t = some (.interface ms))
    (h : Lib.VarReads P W name (.iface nm d)) : ∃ (tp : TypeId) (p : Value), W.cell? ⟨g, 0, none⟩ = some (.iface tp p) := by
  obtain ⟨g', t', cs, fuel, p, hg', ht', hvar, hd⟩ := h
  obtain rfl := Option.some.inj (hg.symm.trans hg')
  obtain rfl := Option.some.inj (hty.symm.trans ht')
  have hc := World.var?_cell hg hvar 0
  obtain ⟨l⟩ := cs
  cases fuel with
  | zero => simp [DataW.trod] at hd
  | succ fuel =>
    cases l with
    | nil => simp [DataW.trod, ht] at hd
    | cons x r =>
      cases r with
      | cons y r => simp [DataW.trod, ht] at hd
      | nil =>
        cases x
        case iface tp q => exact ⟨tp, q, by simpa using hc⟩
        all_goals simp [DataW.trod, ht] at hd

variable {H : Type} {enc : TypeId × Value → H}
def seatLaid : List (String × DataW Unit) := Rows.rulesAgreeRow.laid
set_option maxRecDepth 100000 in
theorem env_of {W : World} (hL : laidMetH Tryz.prog seatLaid W) (hsh : W.ShapedOpen Tryz.prog) : Env W := by
  rw [MakeChecks.laidMetH_plain _ _ _ (by kernel_rfl)] at hL
  refine ⟨?_, ?_, ?_, ?_, ?_⟩
  · exact Go.Proofs.cell_of_shapedOpen_int (zero := #[.int .i64 0]) (t := 3) hsh (of_decide_eq_true (by kernel_rfl)) (by kernel_rfl) rfl (by kernel_rfl) (by kernel_rfl) Tryz.underlying3
  · have h : Lib.VarReads Tryz.prog W "internal/strconv.uint64pow10" (Lib.tabData .u64 Lib.pow10Tab) := Lib.laidMet.reads hL (.tail _ (.tail _ (.head _)))
    exact tab_of (g := 0) (t := 218) (e := 38) (n := 20) (by kernel_rfl) (by kernel_rfl) (by kernel_rfl) (by kernel_rfl) (by kernel_rfl) (by kernel_rfl) h
  · have h : Lib.VarReads Tryz.prog W "math/bits.deBruijn64tab" (Lib.tabData .u8 [0, 1, 56, 2, 57, 49, 28, 3, 61, 58, 42, 50, 38, 29, 17, 4, 62, 47, 59, 36, 45, 43, 51, 22, 53, 39, 33, 30, 24, 18, 12, 5, 63, 55, 48, 27, 60, 41, 37, 16, 46, 35, 44, 21, 52, 32, 23, 11, 54, 26, 40, 15, 34, 20, 31, 10, 25, 14, 19, 9, 13, 8, 7, 6]) := Lib.laidMet.reads hL (.tail _ (.head _))
    exact (tab_of (g := 3) (t := 244) (e := 5) (n := 64) (by kernel_rfl) (by kernel_rfl) (by kernel_rfl) (by kernel_rfl) (by kernel_rfl) (by kernel_rfl) h).cell (by kernel_rfl) 15 (by decide)
  · exact iface_of (g := 6) (t := 121) (by kernel_rfl) (by kernel_rfl) Tryz.underlying121 (Lib.laidMet.reads hL (.tail _ (.tail _ (.tail _ (.tail _ (.tail _ (.head _)))))))
  · exact iface_of (g := 7) (t := 121) (by kernel_rfl) (by kernel_rfl) Tryz.underlying121 (Lib.laidMet.reads hL (.tail _ (.tail _ (.tail _ (.tail _ (.head _))))))
theorem own : ownKnob Tryz.prog.godebug = none := by kernel_rfl
end Go.Proofs.YthglckoikjfjkaaGreatDoor

/- The frame of the policy laws: a policy as it comes in. -/
namespace Go.Proofs.YthglckoikjfjkaaGreatDoor
open Go.ChangeShapes Go.WideShapes Go.ChangeAt Go.RowKit Go.Deep

theorem list_of {α : Type} {n : Nat} {P : Nat → α → Prop} (h : ∀ i, i < n → ∃ x, P i x) : ∃ l : List α, l.length = n ∧ ∀ i x, l[i]? = some x → P i x := by
  induction n with
  | zero => exact ⟨[], rfl, fun i x hx => by simp at hx⟩
  | succ n ih =>
    obtain ⟨l, hl, hp⟩ := ih fun i hi => h i (by omega)
    obtain ⟨x, hx⟩ := h n (by omega)
    refine ⟨l ++ [x], by simp [hl], fun i y hy => ?_⟩
    by_cases hi : i < n
    · rw [List.getElem?_append_left (by omega)] at hy
      exact hp i y hy
    · have h2 := (List.getElem?_eq_some_iff.1 hy).1
      simp at h2
      obtain rfl : i = n := by omega
      rw [List.getElem?_append_right (by omega), hl, Nat.sub_self] at hy
      simp at hy
      subst hy
      exact hx
theorem row_len {α : Type} (cells : α → List Value) (size : Nat) (hc : ∀ x, (cells x).length = size) : ∀ l : List α, (l.flatMap cells).length = l.length * size := by
  intro l
  induction l with
  | nil => simp
  | cons x r ih => rw [List.flatMap_cons, List.length_append, ih, hc, List.length_cons, Nat.add_mul, Nat.one_mul, Nat.add_comm]
theorem row_at {α : Type} (cells : α → List Value) (size : Nat) (hc : ∀ x, (cells x).length = size) : ∀ (l : List α) (j : Nat) (u : Value), (l.flatMap cells)[j]? = some u → ∃ i x r, l[i]? = some x ∧ (cells x)[r]? = some u ∧ j = i * size + r := by
  intro l
  induction l with
  | nil => intro j u h; simp at h
  | cons x r ih =>
    intro j u h
    rw [List.flatMap_cons] at h
    by_cases hj : j < size
    · rw [List.getElem?_append_left (by rw [hc]; exact hj)] at h
      exact ⟨0, x, j, rfl, h, by omega⟩
    · rw [List.getElem?_append_right (by rw [hc]; omega), hc] at h
      obtain ⟨i, y, k, h1, h2, h3⟩ := ih _ _ h
      exact ⟨i + 1, y, k, by simpa using h1, h2, by rw [Nat.add_mul]; omega⟩
section
variable {H : Type}
theorem bulk_one (d : DataW H) : 1 ≤ Rows.uptoBulk d := by
  cases d with
  | lit l => cases l <;> simp [Rows.uptoBulk]
  | _ => simp [Rows.uptoBulk]
theorem bulk_mem {d : DataW H} : ∀ {l : List (DataW H)}, d ∈ l → Rows.uptoBulk d ≤ Rows.uptoBulkAll l := by
  intro l
  induction l with
  | nil => intro h; cases h
  | cons x r ih =>
    intro h
    rw [Rows.uptoBulkAll]
    rcases List.mem_cons.1 h with e | e
    · subst e; omega
    · have := ih e; omega
theorem bulk_len : ∀ l : List (DataW H), l.length ≤ Rows.uptoBulkAll l := by
  intro l
  induction l with
  | nil => exact Nat.zero_le _
  | cons x r ih => rw [Rows.uptoBulkAll, List.length_cons]; have := bulk_one x; omega
theorem bulk_agg {xs : List (DataW H × List MemPlace)} {i : Nat} {y : DataW H × List MemPlace} (h : xs[i]? = some y) : Rows.uptoBulk y.1 ≤ Rows.uptoBulk (.agg (xs.map (·.1))) := by
  rw [Rows.uptoBulk]
  have := bulk_mem (d := y.1) (l := xs.map (·.1)) (List.mem_map.2 ⟨y, List.mem_of_getElem? h, rfl⟩)
  omega
end
section
variable {H : Type} {enc : TypeId × Value → H} {w : World} {base : Nat} {sp : Nat → Bool} {held : Bool}
theorem open_row {t e : TypeId} {fuel : Nat} {cs : List Value} {x : DataW H × List MemPlace} (ht : Tryz.prog.underlying t = some (.slice e)) {α : Type} (size : Nat) (hsz : 0 < size) (hc : Tryz.prog.cellsOf e = size) (cells : α → List Value) (hcl : ∀ x, (cells x).length = size) (Q : DataW H → α → Prop)
    (hel : ∀ n cs y, DataW.trod enc Tryz.prog w base sp held n e cs = some y → ∃ x, cs = cells x ∧ Q y.1 x) (h : DataW.trod enc Tryz.prog w base sp held fuel t cs = some x) :
    ∃ (l : List α) (v : Value), cs = [v] ∧ RowR w v l.length size (l.flatMap cells) ∧ (∀ y ∈ l, ∃ D, Q D y ∧ Rows.uptoBulk D ≤ Rows.uptoBulk x.1) ∧ l.length ≤ Rows.uptoBulk x.1 ∧ ∀ A n c, v = .slice A n c → n ≤ c := by
  rcases open_slice ht h with ⟨rfl, rfl⟩ | ⟨a, len, cap, m, n, D, Pl, rfl, hb, hl, hm, hmm, rfl, hi⟩
  · exact ⟨[], _, rfl, RowR.empty _ _, fun y hy => (by cases hy), Nat.zero_le _, fun A n c e => by injection e with _ e1 e2; omega⟩
  · have hlm : len ≤ m := by rw [hmm]; split <;> omega
    obtain ⟨l, hl1, hl2⟩ := list_of (n := len) (P := fun i x => w.cells? base (a.add (i * size)) size = some (cells x) ∧ Q (D i) x) (fun i hil => by
      obtain ⟨cs', h1, h2⟩ := hi i (by omega)
      obtain ⟨x, rfl, hq⟩ := hel _ _ _ h2
      rw [hc] at h1
      exact ⟨x, h1, hq⟩)
    have hbl : Rows.uptoBulkAll ((List.range len).map D) + 1 ≤ Rows.uptoBulk (DataW.slice ((List.range len).map D) ((List.range (m - len)).map fun j => D (len + j))) := by rw [Rows.uptoBulk]; omega
    refine ⟨l, _, rfl, ⟨some a, cap, by rw [hl1], row_len cells size hcl l, fun hpos => ?_⟩, fun y hy => ?_, ?_, fun A n c e => by injection e with _ e1 e2; omega⟩
    · have hcell : ∀ j u, (l.flatMap cells)[j]? = some u → w.cell? (a.add j) = some u := by
        intro j u hu
        obtain ⟨i, x, r, h1, h2, rfl⟩ := row_at cells size hcl l j u hu
        have hr : r < size := by have := (List.getElem?_eq_some_iff.1 h2).1; rw [hcl] at this; exact this
        have h3 := (World.cells?_some (hl2 i x h1).1).2.2 r hr
        rw [add_add] at h3
        rw [h3, h2]
      obtain ⟨g, o, spot⟩ := a
      have h0 : ∃ u, (l.flatMap cells)[0]? = some u := by
        have : 0 < (l.flatMap cells).length := by rw [row_len cells size hcl]; exact Nat.mul_pos hpos hsz
        exact ⟨_, List.getElem?_eq_getElem this⟩
      obtain ⟨u, hu⟩ := h0
      have hspot : spot = none := by simpa [Addr.add] using World.cell?_spot (hcell 0 u hu)
      subst hspot
      refine ⟨g, o, rfl, fun j u hu => ?_⟩
      have := hcell j u hu
      rw [addr_add] at this
      exact this
    · obtain ⟨i, hiy⟩ := List.mem_iff_getElem?.1 hy
      have hil : i < len := by have := (List.getElem?_eq_some_iff.1 hiy).1; omega
      refine ⟨D i, (hl2 i y hiy).2, ?_⟩
      have := bulk_mem (d := D i) (l := (List.range len).map D) (List.mem_map.2 ⟨i, List.mem_range.2 hil, rfl⟩)
      exact Nat.le_trans this (by simp only at hbl ⊢; omega)
    · have := bulk_len ((List.range len).map D)
      rw [List.length_map, List.length_range] at this
      simp only at hbl ⊢
      omega
end
theorem d4 : Tryz.prog.cellsOf 4 = 1 := by kernel_rfl
theorem d5 : Tryz.prog.cellsOf 5 = 1 := by kernel_rfl
theorem d6 : Tryz.prog.cellsOf 41 = 1 := by kernel_rfl
theorem d9 : Tryz.prog.cellsOf 9 = 1 := by kernel_rfl
theorem d10 : Tryz.prog.cellsOf 38 = 1 := by kernel_rfl
theorem d11 : Tryz.prog.cellsOf 40 = 3 := by kernel_rfl
theorem d12 : Tryz.prog.cellsOf 64 = 4 := by kernel_rfl
theorem d13 : Tryz.prog.cellsOf 56 = 2 := by kernel_rfl
theorem d14 : Tryz.prog.cellsOf 127 = 5 := by kernel_rfl
theorem d15 : Tryz.prog.cellsOf 66 = 6 := by kernel_rfl
theorem d16 : Tryz.prog.cellsOf 68 = 2 := by kernel_rfl
theorem d17 : Tryz.prog.cellsOf 61 = 4 := by kernel_rfl
theorem d18 : Tryz.prog.cellsOf 26 = 4 := by kernel_rfl
theorem d19 : Tryz.prog.cellsOf 50 = 1 := by kernel_rfl
theorem d20 : Tryz.prog.cellsOf 57 = 1 := by kernel_rfl
theorem d21 : Tryz.prog.cellsOf 58 = 1 := by kernel_rfl
theorem d22 : Tryz.prog.cellsOf 59 = 1 := by kernel_rfl
theorem d23 : Tryz.prog.cellsOf 22 = 1 := by kernel_rfl
theorem d24 : Tryz.prog.cellsOf 23 = 1 := by kernel_rfl
theorem d25 : Tryz.prog.cellsOf 24 = 1 := by kernel_rfl
theorem nat_k {k : IntKind} {z : Int} {b : Nat} (h : (Lit.int k z).wf = true) (hk : k.min = 0 ∧ k.max = (b : Int)) : ∃ n : Nat, z = (n : Int) ∧ n ≤ b := by
  have hx : k.min ≤ z ∧ z ≤ k.max := by simpa [Lit.wf] using h
  rw [hk.1, hk.2] at hx
  exact ⟨z.toNat, by omega, by omega⟩
section
variable {H : Type} {enc : TypeId × Value → H} {w : World} {base : Nat} {sp : Nat → Bool} {held : Bool}
theorem el_str : ∀ n cs y, DataW.trod enc Tryz.prog w base sp held n 9 cs = some y → ∃ x : ByteArray, cs = [.string x] ∧ x.size < Rows.uptoBulk y.1 := by
  intro n cs y h
  obtain ⟨s, rfl, rfl, _⟩ := DataW.trod_string Tryz.underlying9 h
  exact ⟨s, rfl, by rw [Rows.uptoBulk]; show s.data.size < s.data.toList.length + 1; rw [Array.length_toList]; omega⟩
theorem el_u8 : ∀ n cs y, DataW.trod enc Tryz.prog w base sp held n 5 cs = some y → ∃ x : Nat, cs = [.int .u8 (x : Int)] ∧ x < 256 := by
  intro n cs y h
  obtain ⟨z, rfl, _, hw⟩ := DataW.trod_int Tryz.underlying5 h
  obtain ⟨m, rfl, hm⟩ := nat_k (b := 255) hw ⟨by decide, by decide⟩
  exact ⟨m, rfl, by omega⟩
set_option maxRecDepth 100000 in
theorem el_ad {n : Nat} {cs : List Value} {y : DataW H × List MemPlace} (h : DataW.trod enc Tryz.prog w base sp held n 40 cs = some y) : ∃ a : Ad, a.Ok ∧ cs = a.cells.toList := by
  obtain ⟨xs, n, _, rfl, hl, hlen, hf⟩ := DataW.trod_struct Tryz.underlying40 h
  rw [d11] at hl
  match cs, hl with
  | [v0, v1, v2], _ =>
    have h0 := hf 0 _ rfl
    have h1 := hf 1 _ rfl
    have h2 := hf 2 _ rfl
    rw [List.getElem?_eq_getElem (show 0 < xs.length by rw [hlen]; decide)] at h0
    rw [List.getElem?_eq_getElem (show 1 < xs.length by rw [hlen]; decide)] at h1
    rw [List.getElem?_eq_getElem (show 2 < xs.length by rw [hlen]; decide)] at h2
    obtain ⟨b, e0, _⟩ := DataW.trod_bool Tryz.underlying4 h0
    obtain ⟨z1, e1, _, w1⟩ := DataW.trod_int Tryz.underlying38 h1
    obtain ⟨z2, e2, _, w2⟩ := DataW.trod_int Tryz.underlying38 h2
    simp [d4, d10] at e0 e1 e2
    subst e0 e1 e2
    obtain ⟨n1, rfl, k1⟩ := nat_k (b := 18446744073709551615) w1 ⟨by decide, by decide⟩
    obtain ⟨n2, rfl, k2⟩ := nat_k (b := 18446744073709551615) w2 ⟨by decide, by decide⟩
    exact ⟨⟨b, n1, n2⟩, ⟨by show n1 < _; omega, by show n2 < _; omega⟩, rfl⟩
set_option maxRecDepth 100000 in
theorem el_pf {n : Nat} {cs : List Value} {y : DataW H × List MemPlace} (h : DataW.trod enc Tryz.prog w base sp held n 64 cs = some y) : ∃ p : Pf, p.Ok ∧ cs = p.cells.toList := by
  obtain ⟨xs, n, _, rfl, hl, hlen, hf⟩ := DataW.trod_struct Tryz.underlying64 h
  rw [d12] at hl
  match cs, hl with
  | [v0, v1, v2, v3], _ =>
    have h0 := hf 0 _ rfl
    have h1 := hf 1 _ rfl
    rw [List.getElem?_eq_getElem (show 0 < xs.length by rw [hlen]; decide)] at h0
    rw [List.getElem?_eq_getElem (show 1 < xs.length by rw [hlen]; decide)] at h1
    obtain ⟨a, ha, e0⟩ := el_ad h0
    obtain ⟨m, e1, k1⟩ := el_u8 _ _ _ h1
    simp [d11, d5, Ad.cells] at e0 e1
    obtain ⟨rfl, rfl, rfl⟩ := e0
    subst e1
    exact ⟨⟨a, m⟩, ⟨ha, k1⟩, rfl⟩
set_option maxRecDepth 100000 in
theorem el_port : ∀ n cs y, DataW.trod enc Tryz.prog w base sp held n 68 cs = some y → ∃ x : Nat × Nat, cs = [.int .u16 (x.1 : Int), .int .u16 (x.2 : Int)] ∧ x.1 < 65536 ∧ x.2 < 65536 := by
  intro n cs y h
  obtain ⟨xs, n, _, rfl, hl, hlen, hf⟩ := DataW.trod_struct Tryz.underlying68 h
  rw [d16] at hl
  match cs, hl with
  | [v0, v1], _ =>
    have h0 := hf 0 _ rfl
    have h1 := hf 1 _ rfl
    rw [List.getElem?_eq_getElem (show 0 < xs.length by rw [hlen]; decide)] at h0
    rw [List.getElem?_eq_getElem (show 1 < xs.length by rw [hlen]; decide)] at h1
    obtain ⟨z1, e0, _, w1⟩ := DataW.trod_int Tryz.underlying41 h0
    obtain ⟨z2, e1, _, w2⟩ := DataW.trod_int Tryz.underlying41 h1
    simp [d6] at e0 e1
    subst e0 e1
    obtain ⟨n1, rfl, k1⟩ := nat_k (b := 65535) w1 ⟨by decide, by decide⟩
    obtain ⟨n2, rfl, k2⟩ := nat_k (b := 65535) w2 ⟨by decide, by decide⟩
    exact ⟨(n1, n2), rfl, by show n1 < _; omega, by show n2 < _; omega⟩
set_option maxRecDepth 100000 in
theorem el_sel : ∀ n cs y, DataW.trod enc Tryz.prog w base sp held n 66 cs = some y → ∃ x : Sel, cs = x.cells.toList ∧ (Rows.uptoBulk y.1 ≤ 1048576 → SelFit x) := by
  intro n cs y h
  obtain ⟨xs, n, _, rfl, hl, hlen, hf⟩ := DataW.trod_struct Tryz.underlying66 h
  rw [d15] at hl
  match cs, hl with
  | [v0, v1, v2, v3, v4, v5], _ =>
    have h0 := hf 0 _ rfl
    have h1 := hf 1 _ rfl
    have h2 := hf 2 _ rfl
    obtain ⟨y1, g1⟩ : ∃ z, xs[1]? = some z := ⟨_, List.getElem?_eq_getElem (show 1 < xs.length by rw [hlen]; decide)⟩
    rw [List.getElem?_eq_getElem (show 0 < xs.length by rw [hlen]; decide)] at h0
    rw [g1] at h1
    rw [List.getElem?_eq_getElem (show 2 < xs.length by rw [hlen]; decide)] at h2
    obtain ⟨k, e0, hk⟩ := el_u8 _ _ _ h0
    obtain ⟨s, e1, hs⟩ := el_str _ _ _ h1
    obtain ⟨p, hp, e2⟩ := el_pf h2
    simp [d5, d9, d12, Pf.cells] at e0 e1 e2
    obtain ⟨rfl, rfl, rfl, rfl⟩ := e2
    subst e0 e1
    exact ⟨⟨k, s, p⟩, rfl, fun hb => ⟨hp, hk, by have hb' : Rows.uptoBulk (DataW.agg (xs.map (·.1))) ≤ 1048576 := hb; have := bulk_agg g1; show s.size ≤ _; omega⟩⟩
set_option maxRecDepth 100000 in
theorem el_hs : ∀ n cs y, DataW.trod enc Tryz.prog w base sp held n 127 cs = some y → ∃ x : Hs, cs = [.string x.name, .bool x.net.a.v6, .int .u64 (x.net.a.hi : Int), .int .u64 (x.net.a.lo : Int), .int .u8 (x.net.bits : Int)] ∧ (Rows.uptoBulk y.1 ≤ 1048576 → x.name.size ≤ 2000000 ∧ x.net.Ok) := by
  intro n cs y h
  obtain ⟨xs, n, _, rfl, hl, hlen, hf⟩ := DataW.trod_struct Tryz.underlying127 h
  rw [d14] at hl
  match cs, hl with
  | [v0, v1, v2, v3, v4], _ =>
    have h0 := hf 0 _ rfl
    have h1 := hf 1 _ rfl
    obtain ⟨y0, g0⟩ : ∃ z, xs[0]? = some z := ⟨_, List.getElem?_eq_getElem (show 0 < xs.length by rw [hlen]; decide)⟩
    rw [g0] at h0
    rw [List.getElem?_eq_getElem (show 1 < xs.length by rw [hlen]; decide)] at h1
    obtain ⟨s, e0, hs⟩ := el_str _ _ _ h0
    obtain ⟨p, hp, e1⟩ := el_pf h1
    simp [d9, d12, Pf.cells] at e0 e1
    obtain ⟨rfl, rfl, rfl, rfl⟩ := e1
    subst e0
    exact ⟨⟨s, p⟩, rfl, fun hb => ⟨by have hb' : Rows.uptoBulk (DataW.agg (xs.map (·.1))) ≤ 1048576 := hb; have := bulk_agg g0; show s.size ≤ _; omega, hp⟩⟩
theorem str_flat (l : List ByteArray) : l.flatMap (fun x => [Value.string x]) = strCells l := by
  unfold strCells
  induction l with
  | nil => rfl
  | cons x r ih => rw [List.flatMap_cons, ih]; rfl
theorem u8_flat (l : List Nat) : l.flatMap (fun x : Nat => [Value.int .u8 (x : Int)]) = protoCells l := by
  unfold protoCells
  induction l with
  | nil => rfl
  | cons x r ih => rw [List.flatMap_cons, ih]; rfl
set_option maxRecDepth 100000 in
theorem el_nm : ∀ n cs y, DataW.trod enc Tryz.prog w base sp held n 56 cs = some y → ∃ x : Nm × Value, cs = [.string x.1.name, x.2] ∧ RowR w x.2 x.1.list.length 1 (strCells x.1.list) ∧ (Rows.uptoBulk y.1 ≤ 1048576 → NmFit x.1) := by
  intro n cs y h
  obtain ⟨xs, n, _, rfl, hl, hlen, hf⟩ := DataW.trod_struct Tryz.underlying56 h
  rw [d13] at hl
  match cs, hl with
  | [v0, v1], _ =>
    have h0 := hf 0 _ rfl
    have h1 := hf 1 _ rfl
    obtain ⟨y0, g0⟩ : ∃ z, xs[0]? = some z := ⟨_, List.getElem?_eq_getElem (show 0 < xs.length by rw [hlen]; decide)⟩
    obtain ⟨y1, g1⟩ : ∃ z, xs[1]? = some z := ⟨_, List.getElem?_eq_getElem (show 1 < xs.length by rw [hlen]; decide)⟩
    rw [g0] at h0
    rw [g1] at h1
    obtain ⟨s, e0, hs⟩ := el_str _ _ _ h0
    obtain ⟨l, v, e1, hr, hq, hb, c1⟩ := open_row Tryz.underlying50 1 (by decide) d9 (fun x => [Value.string x]) (fun _ => rfl) (fun D x => x.size < Rows.uptoBulk D) el_str h1
    rw [str_flat] at hr
    simp [d9, d19] at e0 e1
    subst e0 e1
    refine ⟨(⟨s, l⟩, v1), rfl, hr, fun hk' => ?_⟩
    have hk : Rows.uptoBulk (DataW.agg (xs.map (·.1))) ≤ 1048576 := hk'
    refine ⟨by have := bulk_agg g0; show s.size ≤ _; omega, by have := bulk_agg g1; show l.length ≤ _; omega, fun t ht => ?_⟩
    obtain ⟨D, h5, h6⟩ := hq t ht
    have := bulk_agg g1
    omega
set_option maxRecDepth 100000 in
theorem el_ac : ∀ n cs y, DataW.trod enc Tryz.prog w base sp held n 61 cs = some y → ∃ x : AcV, cs = [x.p, x.s, x.d, x.o] ∧ AcRdM w x ∧ (Rows.uptoBulk y.1 ≤ 1048576 → AcFit x.a) := by
  intro n cs y h
  obtain ⟨xs, n, _, rfl, hl, hlen, hf⟩ := DataW.trod_struct Tryz.underlying61 h
  rw [d17] at hl
  match cs, hl with
  | [v0, v1, v2, v3], _ =>
    have h0 := hf 0 _ rfl
    have h1 := hf 1 _ rfl
    have h2 := hf 2 _ rfl
    have h3 := hf 3 _ rfl
    obtain ⟨y0, g0⟩ : ∃ z, xs[0]? = some z := ⟨_, List.getElem?_eq_getElem (show 0 < xs.length by rw [hlen]; decide)⟩
    obtain ⟨y1, g1⟩ : ∃ z, xs[1]? = some z := ⟨_, List.getElem?_eq_getElem (show 1 < xs.length by rw [hlen]; decide)⟩
    obtain ⟨y2, g2⟩ : ∃ z, xs[2]? = some z := ⟨_, List.getElem?_eq_getElem (show 2 < xs.length by rw [hlen]; decide)⟩
    obtain ⟨y3, g3⟩ : ∃ z, xs[3]? = some z := ⟨_, List.getElem?_eq_getElem (show 3 < xs.length by rw [hlen]; decide)⟩
    rw [g0] at h0
    rw [g1] at h1
    rw [g2] at h2
    rw [g3] at h3
    obtain ⟨l0, u0, e0, r0, q0, b0, c0⟩ := open_row Tryz.underlying57 1 (by decide) d5 (fun x : Nat => [Value.int .u8 (x : Int)]) (fun _ => rfl) (fun _ x => x < 256) el_u8 h0
    obtain ⟨l1, u1, e1, r1, q1, b1, c1⟩ := open_row Tryz.underlying58 6 (by decide) d15 (fun x : Sel => x.cells.toList) (fun _ => rfl) (fun D x => Rows.uptoBulk D ≤ 1048576 → SelFit x) el_sel h1
    obtain ⟨l2, u2, e2, r2, q2, b2, c2⟩ := open_row Tryz.underlying58 6 (by decide) d15 (fun x : Sel => x.cells.toList) (fun _ => rfl) (fun D x => Rows.uptoBulk D ≤ 1048576 → SelFit x) el_sel h2
    obtain ⟨l3, u3, e3, r3, q3, b3, c3⟩ := open_row Tryz.underlying59 2 (by decide) d16 (fun x : Nat × Nat => [Value.int .u16 (x.1 : Int), .int .u16 (x.2 : Int)]) (fun _ => rfl) (fun _ x => x.1 < 65536 ∧ x.2 < 65536) el_port h3
    rw [u8_flat] at r0
    simp [d20, d21, d22] at e0 e1 e2 e3
    subst e0 e1 e2 e3
    refine ⟨⟨⟨l0, l1, l2, l3⟩, v0, v1, v2, v3⟩, rfl, ⟨r0, r1, r2, r3⟩, fun hk' => ?_⟩
    have hk : Rows.uptoBulk (DataW.agg (xs.map (·.1))) ≤ 1048576 := hk'
    have k0 := bulk_agg g0
    have k1 := bulk_agg g1
    have k2 := bulk_agg g2
    have k3 := bulk_agg g3
    refine ⟨fun x hx => ?_, fun x hx => ?_, by show l0.length ≤ _; omega, by show l1.length ≤ _; omega, by show l2.length ≤ _; omega, by show l3.length ≤ _; omega, fun x hx => ?_, fun x hx => ?_⟩
    · obtain ⟨D, h5, h6⟩ := q1 x hx
      exact h5 (by omega)
    · obtain ⟨D, h5, h6⟩ := q2 x hx
      exact h5 (by omega)
    · obtain ⟨D, h5, _⟩ := q0 x hx
      exact h5
    · obtain ⟨D, h5, _⟩ := q3 x hx
      exact h5
set_option maxRecDepth 100000 in
theorem open_po {b0 : Nat} {v : Value} {d : DataW H} {p : List MemPlace} (hv : Value.okWide Tryz.prog w .any b0 26 v) (h : DataW.Trod enc Tryz.prog w base sp held 26 v d p) (hk : Rows.uptoBulk d ≤ 1048576) :
    ∃ (V : PoV) (q : Po), v = .agg #[V.g, V.t, V.h, V.a] ∧ PoRd w V q ∧ PoFit q ∧ (∀ A n c, V.g = .slice A n c → n ≤ c) ∧ (∀ A n c, V.t = .slice A n c → n ≤ c) ∧ ∀ A n c, V.h = .slice A n c → n ≤ c := by
  obtain ⟨cs, rfl, _⟩ := okWide_struct Tryz.underlying26 hv
  obtain ⟨fuel, hfu⟩ := h
  obtain ⟨xs, n, _, he, hl, hlen, hf⟩ := DataW.trod_struct Tryz.underlying26 hfu
  injection he with he _
  subst he
  obtain ⟨cs⟩ := cs
  rw [d18] at hl
  match cs, hl with
  | [v0, v1, v2, v3], _ =>
    have h0 := hf 0 _ rfl
    have h1 := hf 1 _ rfl
    have h2 := hf 2 _ rfl
    have h3 := hf 3 _ rfl
    obtain ⟨y0, g0⟩ : ∃ z, xs[0]? = some z := ⟨_, List.getElem?_eq_getElem (show 0 < xs.length by rw [hlen]; decide)⟩
    obtain ⟨y1, g1⟩ : ∃ z, xs[1]? = some z := ⟨_, List.getElem?_eq_getElem (show 1 < xs.length by rw [hlen]; decide)⟩
    obtain ⟨y2, g2⟩ : ∃ z, xs[2]? = some z := ⟨_, List.getElem?_eq_getElem (show 2 < xs.length by rw [hlen]; decide)⟩
    obtain ⟨y3, g3⟩ : ∃ z, xs[3]? = some z := ⟨_, List.getElem?_eq_getElem (show 3 < xs.length by rw [hlen]; decide)⟩
    rw [g0] at h0
    rw [g1] at h1
    rw [g2] at h2
    rw [g3] at h3
    obtain ⟨l0, u0, e0, r0, q0, b0, c0⟩ := open_row Tryz.underlying22 2 (by decide) d13 (fun x : Nm × Value => [Value.string x.1.name, x.2]) (fun _ => rfl) (fun D x => RowR w x.2 x.1.list.length 1 (strCells x.1.list) ∧ (Rows.uptoBulk D ≤ 1048576 → NmFit x.1)) el_nm h0
    obtain ⟨l1, u1, e1, r1, q1, b1, c1⟩ := open_row Tryz.underlying22 2 (by decide) d13 (fun x : Nm × Value => [Value.string x.1.name, x.2]) (fun _ => rfl) (fun D x => RowR w x.2 x.1.list.length 1 (strCells x.1.list) ∧ (Rows.uptoBulk D ≤ 1048576 → NmFit x.1)) el_nm h1
    obtain ⟨l2, u2, e2, r2, q2, b2, c2⟩ := open_row Tryz.underlying23 5 (by decide) d14 (fun x : Hs => [Value.string x.name, .bool x.net.a.v6, .int .u64 (x.net.a.hi : Int), .int .u64 (x.net.a.lo : Int), .int .u8 (x.net.bits : Int)]) (fun _ => rfl) (fun D x => Rows.uptoBulk D ≤ 1048576 → x.name.size ≤ 2000000 ∧ x.net.Ok) el_hs h2
    obtain ⟨l3, u3, e3, r3, q3, b3, c3⟩ := open_row Tryz.underlying24 4 (by decide) d17 (fun x : AcV => [x.p, x.s, x.d, x.o]) (fun _ => rfl) (fun D x => AcRdM w x ∧ (Rows.uptoBulk D ≤ 1048576 → AcFit x.a)) el_ac h3
    simp [d23, d24, d25, Value.cells] at e0 e1 e2 e3
    subst e0 e1 e2 e3
    have k0 := bulk_agg g0
    have k1 := bulk_agg g1
    have k2 := bulk_agg g2
    have k3 := bulk_agg g3
    have nmf : ∀ l : List (Nm × Value), l.flatMap (fun x : Nm × Value => [Value.string x.1.name, x.2]) = nmCells (l.map nmPair) := by
      intro l
      unfold nmCells
      rw [List.flatMap_map]
      rfl
    rw [nmf] at r0 r1
    refine ⟨⟨v0, v1, v2, v3⟩, ⟨l0.map (·.1), l1.map (·.1), l2, l3.map (·.a)⟩, rfl, ⟨⟨l0, rfl, by simp only [List.length_map]; exact r0, fun x hx => ?_⟩, ⟨l1, rfl, by simp only [List.length_map]; exact r1, fun x hx => ?_⟩, r2, ⟨l3, rfl, by simp only [List.length_map]; exact r3, fun x hx => ?_⟩⟩, ⟨fun x hx => ?_, fun x hx => ?_, fun x hx => ?_, fun x hx => ?_, by simp only [List.length_map]; omega, by simp only [List.length_map]; omega, by show l2.length ≤ _; omega, by simp only [List.length_map]; omega⟩, c0, c1, c2⟩
    · obtain ⟨D, h5, h6⟩ := q0 x hx
      exact h5.1
    · obtain ⟨D, h5, h6⟩ := q1 x hx
      exact h5.1
    · obtain ⟨D, h5, h6⟩ := q3 x hx
      exact h5.1
    · obtain ⟨y, hy, rfl⟩ := List.mem_map.1 hx
      obtain ⟨D, h5, h6⟩ := q0 y hy
      exact h5.2 (by omega)
    · obtain ⟨y, hy, rfl⟩ := List.mem_map.1 hx
      obtain ⟨D, h5, h6⟩ := q1 y hy
      exact h5.2 (by omega)
    · obtain ⟨D, h5, h6⟩ := q2 x hx
      exact h5 (by omega)
    · obtain ⟨y, hy, rfl⟩ := List.mem_map.1 hx
      obtain ⟨D, h5, h6⟩ := q3 y hy
      exact h5.2 (by omega)
end
theorem laidOut : laidOutB Tryz.prog = true := by kernel_rfl
end Go.Proofs.YthglckoikjfjkaaGreatDoor
