/- The plain law of the window: numbers and lists, no program in sight. -/
namespace Go.Proofs.Yticckhcdbcbooaa.Win

structure St where
  size : Nat
  high : Nat
  any : Bool
  set : Nat → Bool

/-- Errno of May. -/
def St.may (s : St) (n : Nat) : Int :=
  if s.any = false ∨ s.high < n then 0
  else if s.size ≤ s.high - n then 170
  else if s.set (n % s.size) then 9 else 0

/-- The bits behind k rounds of the clearing loop. -/
def clr (size : Nat) (set : Nat → Bool) (n k : Nat) : Nat → Bool := fun x => set x && !((List.range k).any fun i => (n - i) % size == x)

theorem St.may_eq (s : St) (n : Nat) : s.may n = if s.any = false ∨ s.high < n then 0 else if s.size ≤ s.high - n then 170 else if s.set (n % s.size) then 9 else 0 := rfl

def St.fresh (s : St) (n : Nat) : Bool := !s.any || (decide (s.high < n) && decide (s.size ≤ n - s.high))

def St.base (s : St) (n : Nat) : Nat → Bool :=
  if s.fresh n then fun _ => false
  else if s.high < n then clr s.size s.set n (n - s.high)
  else s.set

def St.put (s : St) (n : Nat) : St :=
  { size := s.size, high := if s.any then max s.high n else n, any := true, set := fun x => s.base n x || x == n % s.size }

def St.mark (s : St) (n : Nat) : St := if s.may n = 0 then s.put n else s

structure Inv (s : St) (L : List Nat) : Prop where
  pos : 1 ≤ s.size
  any : s.any = !L.isEmpty
  high : s.any = true → s.high ∈ L
  none : s.any = false → s.high = 0
  le : ∀ m ∈ L, m ≤ s.high
  bits : s.any = true → ∀ m, m ≤ s.high → s.high - m < s.size → (s.set (m % s.size) = true ↔ m ∈ L)

theorem mod_inj {a b n : Nat} (h : a % n = b % n) (h1 : a ≤ b) (h2 : b - a < n) : a = b := by
  have h3 : (b - a) % n = 0 := Nat.sub_mod_eq_zero_of_mod_eq h.symm
  rw [Nat.mod_eq_of_lt h2] at h3
  omega

theorem mod_inj' {a b n : Nat} (h : a % n = b % n) (h1 : a - b < n) (h2 : b - a < n) : a = b := by
  rcases Nat.le_total a b with h3 | h3
  · exact mod_inj h h3 h2
  · exact (mod_inj h.symm h3 h1).symm

theorem Inv.may {s : St} {L : List Nat} (h : Inv s L) (n : Nat) :
    s.may n = if L ≠ [] ∧ n < s.high ∧ s.size ≤ s.high - n then 170 else if n ∈ L then 9 else 0 := by
  unfold St.may
  cases ha : s.any with
  | false =>
    have he : L = [] := by have := h.any; rw [ha] at this; simpa using this.symm
    subst he
    simp
  | true =>
    have hne : L ≠ [] := by have := h.any; rw [ha] at this; intro e; subst e; simp at this
    have hb := h.bits ha n
    by_cases h1 : s.high < n
    · have : n ∉ L := fun hm => by have := h.le n hm; omega
      simp [h1, this]
      omega
    · have hp := h.pos
      by_cases h2 : s.size ≤ s.high - n
      · have h3 : n < s.high := by omega
        simp [h1, h2, h3, hne]
      · have h3 := hb (by omega) (by omega)
        simp [h1, h2, h3]

theorem clr_iff {size : Nat} {set : Nat → Bool} {n k x : Nat} : clr size set n k x = true ↔ set x = true ∧ ∀ i, i < k → (n - i) % size ≠ x := by
  unfold clr
  simp

theorem Inv.put {s : St} {L : List Nat} (h : Inv s L) {n : Nat} (h0 : s.may n = 0) : Inv (s.put n) (n :: L) := by
  have hp := h.pos
  cases ha : s.any with
  | false =>
    have he : L = [] := by have := h.any; rw [ha] at this; simpa using this.symm
    subst he
    refine ⟨hp, by simp [St.put], fun _ => by simp [St.put, ha], fun hh => by simp [St.put] at hh, fun m hm => ?_, fun _ m h1 h2 => ?_⟩
    · simp [St.put, ha] at hm ⊢; omega
    · simp [St.put, ha] at h1 h2
      simp [St.put, ha, St.base, St.fresh]
      exact ⟨fun h3 => mod_inj h3 h1 h2, fun h3 => by rw [h3]⟩
  | true =>
    have hb := h.bits ha
    have hmax : (s.put n).high = max s.high n := by simp [St.put, ha]
    refine ⟨hp, by simp [St.put], fun _ => ?_, fun hh => by simp [St.put] at hh, fun m hm => ?_, fun _ m h1 h2 => ?_⟩
    · rw [hmax]
      rcases Nat.le_total s.high n with h1 | h1
      · rw [Nat.max_eq_right h1]; simp
      · rw [Nat.max_eq_left h1]; exact List.mem_cons_of_mem _ (h.high ha)
    · rw [hmax]
      rcases List.mem_cons.1 hm with h1 | h1
      · omega
      · have := h.le m h1; omega
    · rw [hmax] at h1 h2
      show (s.base n (m % s.size) || m % s.size == n % s.size) = true ↔ _
      have h2' : max s.high n - m < s.size := h2
      by_cases hgt : s.high < n
      · rw [Nat.max_eq_right (by omega)] at h1 h2'
        have hmn : m % s.size = n % s.size ↔ m = n := ⟨fun e => mod_inj e h1 h2', fun e => by rw [e]⟩
        by_cases hf : s.size ≤ n - s.high
        · have hfr : s.fresh n = true := by simp [St.fresh, hgt, hf]
          have : m ∉ L := fun hm => by have := h.le m hm; omega
          simp [St.base, hfr, hmn, this]
        · have hfr : s.fresh n = false := by simp [St.fresh, ha, hf]
          simp only [St.base, hfr, Bool.false_eq_true, if_false, if_pos hgt, Bool.or_eq_true, beq_iff_eq, hmn, List.mem_cons, clr_iff]
          constructor
          · rintro (⟨h3, h4⟩ | h3)
            · right
              have hmh : m ≤ s.high := by
                rcases Nat.lt_or_ge s.high m with h5 | h5
                · exact absurd (by rw [show n - (n - m) = m from by omega]) (h4 (n - m) (by omega))
                · exact h5
              exact (hb m hmh (by omega)).1 h3
            · exact .inl h3
          · rintro (h3 | h3)
            · exact .inr h3
            · have hmh := h.le m h3
              refine .inl ⟨(hb m hmh (by omega)).2 h3, fun i hi e => ?_⟩
              have := mod_inj' e (by omega) (by omega)
              omega
      · rw [Nat.max_eq_left (by omega)] at h1 h2'
        have hn : ¬ s.size ≤ s.high - n := by
          intro h3
          have : s.may n = 170 := by simp [St.may, ha, hgt, h3]
          omega
        have hfr : s.fresh n = false := by simp [St.fresh, ha, hgt]
        have hmn : m % s.size = n % s.size ↔ m = n := ⟨fun e => mod_inj' e (by omega) (by omega), fun e => by rw [e]⟩
        simp only [St.base, hfr, Bool.false_eq_true, if_false, if_neg hgt, Bool.or_eq_true, beq_iff_eq, hmn, List.mem_cons, hb m h1 h2']
        exact or_comm

end Go.Proofs.Yticckhcdbcbooaa.Win
