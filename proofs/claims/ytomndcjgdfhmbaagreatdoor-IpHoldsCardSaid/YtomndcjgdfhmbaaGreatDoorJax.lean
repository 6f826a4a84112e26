/- Joined out of: CuA CuB RgA. -/
import Derived.Test.YtomndcjgdfhmbaaGreatDoorJam
import Derived.BigRegion
import Derived.Test.YtomndcjgdfhmbaaGreatDoorJad
import Derived.WalkKit
set_option linter.unusedVariables false
set_option linter.unusedSimpArgs false

/- The law's own prefixes of an address (cut): the walk. (Printed by cu_any.py.) -/
namespace Go.Proofs.YtomndcjgdfhmbaaGreatDoor
open Go.RowKit

def cutA (a : Ad) (n : Nat) : Ad := if a.v6 then (if n ≤ 64 then ⟨true, a.hi / 2 ^ (64 - n) * 2 ^ (64 - n), 0⟩ else ⟨true, a.hi, a.lo / 2 ^ (128 - n) * 2 ^ (128 - n)⟩) else ⟨false, a.hi, a.lo / 2 ^ (32 - n) * 2 ^ (32 - n)⟩
theorem cast_back (x k : Nat) : (x : Int) / 2 ^ k * 2 ^ k = ((x / 2 ^ k * 2 ^ k : Nat) : Int) := by push_cast; rfl
theorem shl_back (x k : Nat) (hx : x < 18446744073709551616) : IntKind.u64.wrap ((x : Int) / 2 ^ k * 2 ^ k) = (x : Int) / 2 ^ k * 2 ^ k := by
  have h : x / 2 ^ k * 2 ^ k ≤ x := Nat.div_mul_le_self x (2 ^ k)
  rw [cast_back, IntKind.wrap_u64]
  omega

set_option maxHeartbeats 4000000 in
set_option maxRecDepth 100000 in
theorem cut_any (a : Ad) (n : Nat) (ok : a.Ok) (hn : n ≤ a.size) (w : World) : Calls Tryz.prog 32 #[.agg a.cells, .int .u8 (n : Int), .int .u8 (a.size : Int)] w (Got (.agg (Pf.cells ⟨cutA a n, n⟩)) w) := by
  unfold cutA Pf.cells Ad.size at *
  obtain ⟨v, x, l⟩ := a
  unfold Ad.cells
  have hx := ok.hi
  have hl := ok.lo
  simp only at hx hl hn ⊢
  clear ok
  have hB0 := (Blk.new w 24 #[.bool v, .int .u64 (x : Int), .int .u64 (l : Int)]).alloc (.cells #[.bool false, .int .u64 0, .int .u64 0, .int .u8 0] 39)
  have hD0 : Blk ((w.alloc (.cells #[.bool v, .int .u64 (x : Int), .int .u64 (l : Int)] 24)).alloc (.cells #[.bool false, .int .u64 0, .int .u64 0, .int .u8 0] 39)) (w.heap.size + 1) 39 #[.bool false, .int .u64 0, .int .u64 0, .int .u8 0] := by
    have h := Blk.new (w.alloc (.cells #[.bool v, .int .u64 (x : Int), .int .u64 (l : Int)] 24)) 39 #[.bool false, .int .u64 0, .int .u64 0, .int .u8 0]
    simpa using h
  have hb0 := two_boxed w (.cells #[.bool v, .int .u64 (x : Int), .int .u64 (l : Int)] 24) (.cells #[.bool false, .int .u64 0, .int .u64 0, .int .u8 0] 39)
  cases v with
  | false =>
    simp only [Bool.false_eq_true, if_false] at hn ⊢
    have hw1 : IntKind.u8.wrap (32 - (n : Int)) = 32 - (n : Int) := by rw [IntKind.wrap_u8]; omega
    have hw2 : ((32 : Int) - (n : Int)).toNat = 32 - n := by omega
    have hs := shl_back l (32 - n) hl
    go_enter Tryz.func32, Tryz.ntmps32
    go_upto_region 1 with fail
    generalize (w.alloc (.cells #[.bool false, .int .u64 (x : Int), .int .u64 (l : Int)] 24)).alloc (.cells #[.bool false, .int .u64 0, .int .u64 0, .int .u8 0] 39) = w0 at hB0 hD0 hb0 ⊢
    have a0 := hB0.cell 0
    have a1 := hB0.cell 1
    have a2 := hB0.cell 2
    simp at a0 a1 a2
    have fr := fun i => hB0.frozen i
    have b0 := hD0.cell 0
    have b1 := hD0.cell 1
    have b2 := hD0.cell 2
    have b3 := hD0.cell 3
    simp at b0 b1 b2 b3
    have fs := fun i => hD0.frozen i
    have HB0 := Lib.hid hB0
    have HD0 := Lib.hid hD0
    have Hb0 := Lib.hid hb0
    clear hB0 hD0 hb0
    go_wp2_with fail
    rw [cast_back]
    exact bodyPost_ret (results_c (x := 6) rfl rfl (load_pf (four (HD0.out.far (p := ⟨w.heap.size, 2, none⟩) (by simp) _) (Hb0.out.setCell (p := ⟨w.heap.size, 2, none⟩) (by simp) _) (Nat.le_succ _)).1)) rfl ⟨rfl, (four (HD0.out.far (p := ⟨w.heap.size, 2, none⟩) (by simp) _) (Hb0.out.setCell (p := ⟨w.heap.size, 2, none⟩) (by simp) _) (Nat.le_succ _)).2⟩
  | true =>
    simp only [if_true] at hn ⊢
    by_cases h64 : n ≤ 64
    · rw [if_pos h64]
      have q : (n : Int) ≤ 64 := by omega
      have hw1 : IntKind.u8.wrap (64 - (n : Int)) = 64 - (n : Int) := by rw [IntKind.wrap_u8]; omega
      have hw2 : ((64 : Int) - (n : Int)).toNat = 64 - n := by omega
      have hs := shl_back x (64 - n) hx
      go_enter Tryz.func32, Tryz.ntmps32
      go_upto_region 1 with fail
      generalize (w.alloc (.cells #[.bool true, .int .u64 (x : Int), .int .u64 (l : Int)] 24)).alloc (.cells #[.bool false, .int .u64 0, .int .u64 0, .int .u8 0] 39) = w0 at hB0 hD0 hb0 ⊢
      have a0 := hB0.cell 0
      have a1 := hB0.cell 1
      have a2 := hB0.cell 2
      simp at a0 a1 a2
      have fr := fun i => hB0.frozen i
      have b0 := hD0.cell 0
      have b1 := hD0.cell 1
      have b2 := hD0.cell 2
      have b3 := hD0.cell 3
      simp at b0 b1 b2 b3
      have fs := fun i => hD0.frozen i
      have HB0 := Lib.hid hB0
      have HD0 := Lib.hid hD0
      have Hb0 := Lib.hid hb0
      clear hB0 hD0 hb0
      go_wp2_with fail
      rw [cast_back]
      exact bodyPost_ret (results_c (x := 6) rfl rfl (load_pf (four ((HD0.out.far (p := ⟨w.heap.size, 2, none⟩) (by simp) _).far (p := ⟨w.heap.size, 1, none⟩) (by simp) _) ((Hb0.out.setCell (p := ⟨w.heap.size, 2, none⟩) (by simp) _).setCell (p := ⟨w.heap.size, 1, none⟩) (by simp) _) (Nat.le_succ _)).1)) rfl ⟨rfl, (four ((HD0.out.far (p := ⟨w.heap.size, 2, none⟩) (by simp) _).far (p := ⟨w.heap.size, 1, none⟩) (by simp) _) ((Hb0.out.setCell (p := ⟨w.heap.size, 2, none⟩) (by simp) _).setCell (p := ⟨w.heap.size, 1, none⟩) (by simp) _) (Nat.le_succ _)).2⟩
    · rw [if_neg h64]
      have q : ¬ (n : Int) ≤ 64 := by omega
      have hw1 : IntKind.u8.wrap (128 - (n : Int)) = 128 - (n : Int) := by rw [IntKind.wrap_u8]; omega
      have hw2 : ((128 : Int) - (n : Int)).toNat = 128 - n := by omega
      have hs := shl_back l (128 - n) hl
      go_enter Tryz.func32, Tryz.ntmps32
      go_upto_region 1 with fail
      generalize (w.alloc (.cells #[.bool true, .int .u64 (x : Int), .int .u64 (l : Int)] 24)).alloc (.cells #[.bool false, .int .u64 0, .int .u64 0, .int .u8 0] 39) = w0 at hB0 hD0 hb0 ⊢
      have a0 := hB0.cell 0
      have a1 := hB0.cell 1
      have a2 := hB0.cell 2
      simp at a0 a1 a2
      have fr := fun i => hB0.frozen i
      have b0 := hD0.cell 0
      have b1 := hD0.cell 1
      have b2 := hD0.cell 2
      have b3 := hD0.cell 3
      simp at b0 b1 b2 b3
      have fs := fun i => hD0.frozen i
      have HB0 := Lib.hid hB0
      have HD0 := Lib.hid hD0
      have Hb0 := Lib.hid hb0
      clear hB0 hD0 hb0
      go_wp2_with fail
      rw [cast_back]
      exact bodyPost_ret (results_c (x := 6) rfl rfl (load_pf (four (HD0.out.far (p := ⟨w.heap.size, 2, none⟩) (by simp) _) (Hb0.out.setCell (p := ⟨w.heap.size, 2, none⟩) (by simp) _) (Nat.le_succ _)).1)) rfl ⟨rfl, (four (HD0.out.far (p := ⟨w.heap.size, 2, none⟩) (by simp) _) (Hb0.out.setCell (p := ⟨w.heap.size, 2, none⟩) (by simp) _) (Nat.le_succ _)).2⟩
end Go.Proofs.YtomndcjgdfhmbaaGreatDoor

/- What the law's own prefixes hold: the plain law. -/
namespace Go.Proofs.YtomndcjgdfhmbaaGreatDoor

theorem cut_v6 (a : Ad) (n : Nat) : (cutA a n).v6 = a.v6 := by
  unfold cutA
  cases h : a.v6 with
  | true => simp only [if_true]; split <;> rfl
  | false => rfl
theorem cut_size (a : Ad) (n : Nat) : (cutA a n).size = a.size := by unfold Ad.size; rw [cut_v6]
theorem cut_val {a : Ad} (ok : a.Ok) (hm : a.may = true) {n : Nat} (hn : n ≤ a.size) : (cutA a n).val = a.val / 2 ^ (a.size - n) * 2 ^ (a.size - n) := by
  have hl := ok.lo
  unfold cutA Ad.val Ad.size at *
  cases h : a.v6 with
  | true =>
    rw [h] at hn
    simp only [if_true] at hn ⊢
    by_cases hc : n ≤ 64
    · simp only [if_pos hc, if_true]
      rw [show 128 - n = (64 - n) + 64 by omega, glue_div _ _ _ hl, Nat.pow_add, ← Nat.mul_assoc]
      omega
    · simp only [if_neg hc, if_true]
      rw [low_div _ _ _ (by omega), Nat.add_mul, Nat.mul_assoc, ← Nat.pow_add, show 64 - (128 - n) + (128 - n) = 64 by omega]
  | false =>
    simp only [Bool.false_eq_true, if_false]
theorem back_le (x k : Nat) : x / 2 ^ k * 2 ^ k ≤ x := Nat.div_mul_le_self x (2 ^ k)
theorem cut_ok {a : Ad} (ok : a.Ok) (n : Nat) : (cutA a n).Ok := by
  have hl := ok.lo
  have hh := ok.hi
  unfold cutA
  split
  · split
    · exact ⟨Nat.lt_of_le_of_lt (back_le _ _) hh, by show 0 < _; omega⟩
    · exact ⟨hh, Nat.lt_of_le_of_lt (back_le _ _) hl⟩
  · exact ⟨hh, Nat.lt_of_le_of_lt (back_le _ _) hl⟩
theorem cut_may {a : Ad} (hm : a.may = true) (n : Nat) : (cutA a n).may = true := by
  unfold Ad.may
  rw [cut_v6]
  cases h : a.v6 with
  | true => rfl
  | false =>
    obtain ⟨h1, h2⟩ := may4 hm h
    have h3 := back_le a.lo (32 - n)
    unfold cutA
    rw [h]
    simp only [Bool.false_eq_true, if_false, Bool.false_or, Bool.and_eq_true, decide_eq_true_eq]
    exact ⟨h1, by omega⟩
theorem cut_pmay {a : Ad} (ok : a.Ok) (hm : a.may = true) {n : Nat} (hn : n ≤ a.size) : pmay ⟨cutA a n, n⟩ = true := by
  unfold pmay
  rw [cut_may hm, cut_size, cut_val ok hm hn, decide_eq_true hn, Nat.mul_mod_left]
  rfl
theorem cut_holds {a : Ad} (ok : a.Ok) (hm : a.may = true) {n : Nat} (hn : n ≤ a.size) (c : Ad) (hc : c.may = true) (h6 : a.v6 = c.v6) : holdsP ⟨cutA a n, n⟩ c = decide (c.val / 2 ^ (a.size - n) = a.val / 2 ^ (a.size - n)) := by
  unfold holdsP
  rw [cut_pmay ok hm hn, hc, cut_v6, cut_size, cut_val ok hm hn, Nat.mul_div_cancel _ (Nat.pow_pos (by decide)), ← h6]
  simp
theorem ad_ext {a b : Ad} (oa : a.Ok) (ob : b.Ok) (ha : a.may = true) (hb : b.may = true) (h6 : a.v6 = b.v6) (hv : a.val = b.val) : a = b := by
  obtain ⟨v, x, l⟩ := a
  obtain ⟨v', x', l'⟩ := b
  simp only at h6
  subst h6
  have h1 := oa.lo
  have h2 := ob.lo
  unfold Ad.val at hv
  cases v with
  | true =>
    simp only [if_true] at hv h1 h2
    obtain ⟨rfl, rfl⟩ := (glue_inj (show l < 2 ^ 64 by omega) (show l' < 2 ^ 64 by omega)).1 hv
    rfl
  | false =>
    obtain ⟨e1, _⟩ := may4 ha rfl
    obtain ⟨e2, _⟩ := may4 hb rfl
    simp only [Bool.false_eq_true, if_false] at hv e1 e2
    subst e1 e2 hv
    rfl
theorem cut_same {a b : Ad} (oa : a.Ok) (ob : b.Ok) (ha : a.may = true) (hb : b.may = true) (h6 : a.v6 = b.v6) {m : Nat} (hm : m ≤ a.size) : cutA b m = cutA a m ↔ b.val / 2 ^ (a.size - m) = a.val / 2 ^ (a.size - m) := by
  have hs : b.size = a.size := by unfold Ad.size; rw [h6]
  have va := cut_val oa ha hm
  have vb := cut_val ob hb (n := m) (by omega)
  rw [hs] at vb
  have hp : 0 < 2 ^ (a.size - m) := Nat.pow_pos (by decide)
  constructor
  · intro e
    rw [e, va] at vb
    exact (Nat.mul_right_cancel hp vb).symm
  · intro e
    refine ad_ext (cut_ok ob m) (cut_ok oa m) (cut_may hb m) (cut_may ha m) (by rw [cut_v6, cut_v6, h6]) ?_
    rw [va, vb, e]
theorem less_same (a b : Ad) : a = b ↔ (lessA a b = false ∧ lessA b a = false) := by
  constructor
  · rintro rfl
    unfold lessA
    simp
  · rintro ⟨h1, h2⟩
    obtain ⟨v, x, l⟩ := a
    obtain ⟨v', x', l'⟩ := b
    unfold lessA at h1 h2
    simp only at h1 h2
    cases v <;> cases v' <;> simp at h1 h2
    all_goals
      by_cases hx : x = x'
      · subst hx
        simp at h1 h2
        have : l = l' := by omega
        subst this
        rfl
      · exfalso
        simp [hx, Ne.symm hx] at h1 h2
        omega
theorem less_ne {a b : Ad} (h : a ≠ b) : (!lessA a b && !lessA b a) = false := by
  cases h1 : lessA a b
  · cases h2 : lessA b a
    · exact absurd ((less_same a b).2 ⟨h1, h2⟩) h
    · rfl
  · rfl
theorem div_coarser {x y j k : Nat} (hjk : k ≤ j) (h : x / 2 ^ k = y / 2 ^ k) : x / 2 ^ j = y / 2 ^ j := by
  obtain ⟨d, rfl⟩ : ∃ d, j = k + d := ⟨j - k, by omega⟩
  rw [Nat.pow_add, ← Nat.div_div_eq_div_mul, ← Nat.div_div_eq_div_mul, h]
end Go.Proofs.YtomndcjgdfhmbaaGreatDoor

/- A region whose order is free, by what its operations leave: the law. -/
namespace Go.Proofs.YtomndcjgdfhmbaaGreatDoor
open Go.RowKit

/- A region whose order is free, by what each operation leaves: F i a w: what holds once number i has come up; J: what holds throughout. -/
section
variable {P : Program} {ops : Array Oper} {Q : Exit → Act → World → Prop} {md : Region.Mode}

def unl (l : Array Bool) : Nat := (l.toList.filter fun b => !b).length
theorem unl_set {l : Array Bool} {i : Nat} (h : l.getD i true = false) : unl (l.setIfInBounds i true) + 1 = unl l := by
  obtain ⟨l⟩ := l
  unfold unl
  rw [Array.getD_eq_getD_getElem?, List.getElem?_toArray] at h
  rw [Array.toList_setIfInBounds]
  show ((l.set i true).filter fun b => !b).length + 1 = (l.filter fun b => !b).length
  induction l generalizing i with
  | nil => exact absurd h (by simp)
  | cons b r ih =>
    cases i with
    | zero =>
      simp at h
      subst h
      simp
    | succ i =>
      rw [List.getElem?_cons_succ] at h
      have := ih h
      rw [List.set_cons_succ, List.filter_cons, List.filter_cons]
      split
      · rw [List.length_cons, List.length_cons]; omega
      · exact this
theorem getD_true_of {l : Array Bool} {i j : Nat} (h : (l.setIfInBounds i true).getD j false = true) (hne : j ≠ i) : l.getD j false = true := by
  rwa [getD_set_ne false (Ne.symm hne)] at h

/- What an operation waits for stands ahead of it. -/
def Region.ordered (ops : Array Oper) : Bool := (List.range ops.size).all fun i => ((ops[i]?).map fun o => o.after.all fun e => decide (e.on < i)).getD true
/- Listed things have what they wait for listed. -/
def Shutl (md : Region.Mode) (ops : Array Oper) (l : Array Bool) : Prop := ∀ (j : Nat) (o : Oper), ops[j]? = some o → l.getD j false = true → ∀ e ∈ o.after, Region.binds md e = true → l.getD e.on false = true
theorem getD_set_or {l : Array Bool} {i j : Nat} (h : l.getD j false = true) : (l.setIfInBounds i true).getD j false = true := by
  by_cases e : i = j
  · subst e
    have hlt : i < l.size := by
      rcases Nat.lt_or_ge i l.size with h' | h'
      · exact h'
      · simp [Array.getD_eq_getD_getElem?, Array.getElem?_eq_none h'] at h
    simp [Array.getD_eq_getD_getElem?, hlt]
  · rw [getD_set_ne false e]; exact h
theorem live {l : Array Bool} (hs : l.size = ops.size) (ho : Region.ordered ops = true) (hu : 0 < unl l) : Region.ready md ops l ≠ [] := by
  have ex : ∃ j, j < l.size ∧ l.getD j true = false := by
    obtain ⟨l⟩ := l
    unfold unl at hu
    obtain ⟨b, hb⟩ := List.exists_mem_of_length_pos hu
    obtain ⟨h1, h2⟩ := List.mem_filter.1 hb
    obtain ⟨j, hj, e⟩ := List.getElem_of_mem h1
    refine ⟨j, hj, ?_⟩
    rw [Array.getD_eq_getD_getElem?, List.getElem?_toArray]
    show (l[j]?).getD true = false
    have hj' : j < l.length := hj
    have e' : l[j] = b := e
    rw [List.getElem?_eq_getElem hj', e']
    simpa using h2
  have least : ∀ n, (∃ j, j < n ∧ j < l.size ∧ l.getD j true = false) → ∃ j, j < l.size ∧ l.getD j true = false ∧ ∀ k, k < j → l.getD k false = true := by
    intro n
    induction n with
    | zero => rintro ⟨j, h, _⟩; omega
    | succ n ih =>
      rintro ⟨j, h1, h2, h3⟩
      by_cases e : ∃ j, j < n ∧ j < l.size ∧ l.getD j true = false
      · exact ih e
      · refine ⟨j, h2, h3, fun k hk => ?_⟩
        have hkl : k < l.size := by omega
        cases hb : l.getD k true with
        | true => simpa [Array.getD_eq_getD_getElem?, hkl] using hb
        | false => exact absurd ⟨k, by omega, hkl, hb⟩ e
  obtain ⟨j0, h1, h2⟩ := ex
  obtain ⟨j, hj, hf, hall⟩ := least (j0 + 1) ⟨j0, by omega, h1, h2⟩
  intro hnil
  have hjo : j < ops.size := by omega
  have : j ∈ Region.ready md ops l := by
    refine mem_ready.2 ⟨hf, ops[j], Array.getElem?_eq_getElem hjo, fun e he _ => hall _ ?_⟩
    have := List.all_eq_true.1 ho j (List.mem_range.2 hjo)
    rw [Array.getElem?_eq_getElem hjo] at this
    simp only [Option.map_some, Option.getD_some] at this
    exact of_decide_eq_true (Array.all_eq_true_iff_forall_mem.1 this e he)
  rw [hnil] at this
  cases this

theorem wpAny_free (F : Nat → Act → World → Prop) (J : Act → World → Prop) (ho : Region.ordered ops = true)
    (hstep : ∀ (i : Nat) (o : Oper) (l : Array Bool) (a : Act) (w : World), ops[i]? = some o → l.getD i true = false → Shutl md ops l → J a w → (∀ e ∈ o.after, Region.binds md e = true → F e.on a w) → wpOp P ops Q i (fun a' w' => J a' w' ∧ F i a' w' ∧ ∀ j, l.getD j false = true → F j a w → F j a' w') a w)
    (hend : ∀ a w, J a w → (∀ j, j < ops.size → F j a w) → Q .normal a w) :
    ∀ (m : Nat) (l : Array Bool) (a : Act) (w : World), unl l = m → l.size = ops.size → Shutl md ops l → J a w → (∀ j, l.getD j false = true → F j a w) → wpAny P md ops Q m l a w := by
  have all : ∀ l : Array Bool, unl l = 0 → ∀ j, j < l.size → l.getD j false = true := by
    intro l h j hj
    cases hb : l.getD j false with
    | true => rfl
    | false =>
      have : l.getD j true = false := by simpa [Array.getD_eq_getD_getElem?, hj] using hb
      have := unl_set this
      omega
  intro m
  induction m with
  | zero =>
    intro l a w hm hs _ hJ hF
    have hA := all l hm
    refine ⟨?_, hend a w hJ fun j hj => hF j (hA j (by omega))⟩
    cases hr : Region.ready md ops l with
    | nil => rfl
    | cons j r =>
      have hj : j ∈ Region.ready md ops l := by rw [hr]; exact List.mem_cons_self ..
      obtain ⟨h1, o, h2, _⟩ := mem_ready.1 hj
      have hlt := (Array.getElem?_eq_some_iff.1 h2).1
      have := hA j (by omega)
      simp [Array.getD_eq_getD_getElem?, show j < l.size by omega] at h1 this
      rw [h1] at this
      cases this
  | succ m ih =>
    intro l a w hm hs hc hJ hF
    have h1 : Region.ready md ops l ≠ [] := live hs ho (by omega)
    refine ⟨fun h => absurd h h1, fun i hi => ?_⟩
    obtain ⟨hun, o, hoi, hdep⟩ := mem_ready.1 hi
    refine wpOp_mono ?_ (hstep i o l a w hoi hun hc hJ fun e he hb => hF e.on (hdep e he hb))
    rintro a' w' ⟨hJ', hFi, hmono⟩
    have hu := unl_set hun
    refine ih _ a' w' (by omega) (by simp [hs]) ?_ hJ' ?_
    · intro j oj hoj hj e he hb
      by_cases ej : j = i
      · subst ej
        obtain rfl : o = oj := Option.some.inj (hoi.symm.trans hoj)
        exact getD_set_or (hdep e he hb)
      · exact getD_set_or (hc j oj hoj (getD_true_of hj ej) e he hb)
    · intro j hj
      by_cases ej : j = i
      · subst ej; exact hFi
      · have := getD_true_of hj ej
        exact hmono j this (hF j this)
theorem unl_none : ∀ n, unl (Array.replicate n false) = n := by
  intro n
  unfold unl
  rw [Array.toList_replicate]
  induction n with
  | zero => rfl
  | succ n ih => rw [List.replicate_succ, List.filter_cons]; simp
end
/- Acts that differ in some slots alone. -/
structure Off (ds : List Nat) (a0 a : Act) : Prop where
  defers : a.defers = a0.defers
  size : a.tmps.size = a0.tmps.size
  same : ∀ t, t ∉ ds → a.tmps[t]? = a0.tmps[t]?
theorem Off.refl (ds : List Nat) (a : Act) : Off ds a a := ⟨rfl, rfl, fun _ _ => rfl⟩
theorem Off.put {ds : List Nat} {a0 a : Act} (h : Off ds a0 a) {d : Nat} (hd : d ∈ ds) (v : Value) : Off ds a0 (a.put (some d) v) := by
  refine ⟨h.defers, by rw [← h.size]; simp [Act.put], ?_⟩
  intro t ht
  rw [← h.same t ht]
  have : d ≠ t := by rintro rfl; exact ht hd
  simp [Act.put, Array.getElem?_setIfInBounds_ne this]
theorem put_self {a : Act} {d : Nat} (v : Value) (h : d < a.tmps.size) : (a.put (some d) v).tmps.getD d undef = v := by simp [Act.put, Array.getD_eq_getD_getElem?, h]
theorem put_other {a : Act} {d t : Nat} (v : Value) (h : d ≠ t) : (a.put (some d) v).tmps.getD t undef = a.tmps.getD t undef := by simp [Act.put, Array.getD_eq_getD_getElem?, Array.getElem?_setIfInBounds_ne h]
theorem Off.get {ds : List Nat} {a0 a : Act} (h : Off ds a0 a) {t : Nat} (ht : t ∉ ds) : a.tmps.getD t undef = a0.tmps.getD t undef := by rw [Array.getD_eq_getD_getElem?, Array.getD_eq_getD_getElem?, h.same t ht]
def putL (a0 a : Act) : List Nat → Act
  | [] => a0
  | d :: r => (putL a0 a r).put (some d) (a.tmps.getD d undef)
theorem putL_size (a0 a : Act) : ∀ ds, (putL a0 a ds).tmps.size = a0.tmps.size ∧ (putL a0 a ds).defers = a0.defers := by
  intro ds
  induction ds with
  | nil => exact ⟨rfl, rfl⟩
  | cons d r ih => exact ⟨by simp [putL, Act.put, ih.1], ih.2⟩
theorem Off.eq {ds : List Nat} {a0 a : Act} (h : Off ds a0 a) : a = putL a0 a ds := by
  have key : ∀ (l : List Nat) (t : Nat), t ∈ l → t < a0.tmps.size → (putL a0 a l).tmps.getD t undef = a.tmps.getD t undef := by
    intro l
    induction l with
    | nil => intro t ht; cases ht
    | cons d r ih =>
      intro t ht hlt
      by_cases e : d = t
      · subst e
        exact put_self _ (by rw [(putL_size a0 a r).1]; exact hlt)
      · rw [putL, put_other _ e]
        exact ih t ((List.mem_cons.1 ht).resolve_left (Ne.symm e)) hlt
  have off : ∀ (l : List Nat) (t : Nat), t ∉ l → (putL a0 a l).tmps[t]? = a0.tmps[t]? := by
    intro l
    induction l with
    | nil => intro t _; rfl
    | cons d r ih =>
      intro t ht
      have h1 : d ≠ t := by rintro rfl; exact ht (List.mem_cons_self ..)
      have h2 := ih t fun hh => ht (List.mem_cons_of_mem _ hh)
      rw [← h2]
      simp [putL, Act.put, Array.getElem?_setIfInBounds_ne h1]
  have ht : a.tmps = (putL a0 a ds).tmps := by
    apply Array.ext
    · rw [h.size, (putL_size a0 a ds).1]
    · intro t h1 h2
      by_cases e : t ∈ ds
      · have := key ds t e (by rw [← h.size]; exact h1)
        simp only [Array.getD_eq_getD_getElem?, Array.getElem?_eq_getElem h1, Array.getElem?_eq_getElem h2, Option.getD_some] at this
        exact this.symm
      · have e1 := off ds t e
        rw [← h.same t e, Array.getElem?_eq_getElem h1, Array.getElem?_eq_getElem h2] at e1
        exact (Option.some.inj e1).symm
  obtain ⟨T, D⟩ := a
  have hd := h.defers
  have hd2 := (putL_size a0 ⟨T, D⟩ ds).2
  generalize hp : putL a0 ⟨T, D⟩ ds = b at ht hd2
  obtain ⟨T', D'⟩ := b
  simp only at ht hd hd2
  rw [ht, hd, hd2]
/- The whole region; ds: the slots that it writes. -/
theorem wp_region_free {P : Program} {ops : Array Oper} {Q : Exit → Act → World → Prop} {id : Nat} {a0 : Act} {w : World} (hm : P.follows .mixedOrders = true) (ds : List Nat) (F : Nat → Act → World → Prop) (J : Act → World → Prop) (ho : Region.ordered ops = true) (hJ : J a0 w.drew)
    (hstep : ∀ (i : Nat) (o : Oper) (l : Array Bool) (a : Act) (w : World), ops[i]? = some o → l.getD i true = false → Shutl .any ops l → Off ds a0 a → J a w → (∀ e ∈ o.after, Region.binds .any e = true → F e.on a w) → wpOp P ops Q i (fun a' w' => Off ds a0 a' ∧ J a' w' ∧ F i a' w' ∧ ∀ j, l.getD j false = true → F j a w → F j a' w') a w)
    (hend : ∀ a w, Off ds a0 a → J a w → (∀ j, j < ops.size → F j a w) → Q .normal a w) : (Code.region id ops true).wp P Q a0 w := by
  have no : ∀ j, (Array.replicate ops.size false).getD j false = false := by
    intro j
    rw [Array.getD_eq_getD_getElem?, Array.getElem?_replicate]
    split <;> rfl
  exact wp_region_any hm (wpAny_free F (fun a w => Off ds a0 a ∧ J a w) ho (fun i o l a w h1 h2 h3 h4 h5 => wpOp_mono (fun a' w' h => ⟨⟨h.1, h.2.1⟩, h.2.2⟩) (hstep i o l a w h1 h2 h3 h4.1 h4.2 h5)) (fun a w h1 h2 => hend a w h1.1 h1.2 h2) ops.size _ a0 _ (unl_none _) (by simp) (fun j o _ h => by rw [no j] at h; cases h) ⟨Off.refl ds a0, hJ⟩ (fun j h => by rw [no j] at h; cases h))
/- Pointers to blocks that a region makes: each to another one. -/
structure Fresh (B : Nat) (ss : List Nat) (a : Act) (w : World) : Prop where
  low : ∀ s ∈ ss, ∀ p, a.tmps.getD s undef = .pointer (some p) → B ≤ p.block ∧ p.block < w.heap.size
  apart : ∀ s ∈ ss, ∀ t ∈ ss, s ≠ t → ∀ p q, a.tmps.getD s undef = .pointer (some p) → a.tmps.getD t undef = .pointer (some q) → p.block ≠ q.block
theorem Fresh.off {B : Nat} {ss : List Nat} {a : Act} {w w' : World} (h : Fresh B ss a w) (hw : w.heap.size ≤ w'.heap.size) {d : Nat} (hd : d ∉ ss) (v : Value) : Fresh B ss (a.put (some d) v) w' := by
  have e : ∀ s ∈ ss, (a.put (some d) v).tmps.getD s undef = a.tmps.getD s undef := fun s hs => put_other v (by rintro rfl; exact hd hs)
  refine ⟨fun s hs p hp => ?_, fun s hs t ht hne p q hp hq => ?_⟩
  · rw [e s hs] at hp
    have := h.low s hs p hp
    omega
  · rw [e s hs] at hp
    rw [e t ht] at hq
    exact h.apart s hs t ht hne p q hp hq
theorem Fresh.same {B : Nat} {ss : List Nat} {a : Act} {w w' : World} (h : Fresh B ss a w) (hw : w.heap.size ≤ w'.heap.size) : Fresh B ss a w' :=
  ⟨fun s hs p hp => by have := h.low s hs p hp; omega, h.apart⟩
theorem Fresh.make {B : Nat} {ss : List Nat} {a : Act} {w w' : World} (h : Fresh B ss a w) (hB : B ≤ w.heap.size) (hw : w.heap.size < w'.heap.size) {d : Nat} (hd : d < a.tmps.size) : Fresh B ss (a.put (some d) (.pointer (some ⟨w.heap.size, 0, none⟩))) w' := by
  have old : ∀ s, s ≠ d → (a.put (some d) (.pointer (some ⟨w.heap.size, 0, none⟩))).tmps.getD s undef = a.tmps.getD s undef := fun s hs => put_other _ (Ne.symm hs)
  have new : ∀ p, (a.put (some d) (.pointer (some ⟨w.heap.size, 0, none⟩))).tmps.getD d undef = .pointer (some p) → p.block = w.heap.size := by
    intro p hp
    rw [put_self _ hd] at hp
    injection hp with hp
    injection hp with hp
    rw [← hp]
  refine ⟨fun s hs p hp => ?_, fun s hs t ht hne p q hp hq => ?_⟩
  · by_cases e : s = d
    · subst e
      have := new p hp
      omega
    · rw [old s e] at hp
      have := h.low s hs p hp
      omega
  · by_cases e : s = d
    · subst e
      have := new p hp
      rw [old t (Ne.symm hne)] at hq
      have := h.low t ht q hq
      omega
    · rw [old s e] at hp
      by_cases e2 : t = d
      · subst e2
        have := new q hq
        have := h.low s hs p hp
        omega
      · rw [old t e2] at hq
        exact h.apart s hs t ht hne p q hp hq
end Go.Proofs.YtomndcjgdfhmbaaGreatDoor
