/- Joined out of: Sort SoB. -/
import Derived.Shelf.SlSortCmp.NoneTotal
import Derived.Test.YthglckoikjfjkaaGreatDoorProg
import Derived.Test.YthglckoikjfjkaaGreatDoorSas
set_option linter.unusedVariables false
set_option linter.unusedSimpArgs false

/- slices.SortFunc of this seat laid (the tools lay-shelf, lay-plain). -/
namespace Go.Proofs
open Go.Shelf
def Tryz.sortSp_ren : Go.Shelf.Ren := ⟨fun | 6 => 82 | 15 => 106 | 14 => 105 | 28 => 123 | 29 => 124 | 20 => 115 | 21 => 116 | 22 => 117 | 23 => 118 | 24 => 119 | 25 => 120 | 26 => 121 | 27 => 122 | 46 => 148 | 47 => 149 | 48 => 150 | 49 => 151 | 50 => 152 | 57 => 168 | n => n, fun | 22 => 70 | 24 => 73 | 25 => 102 | 3 => 3 | 39 => 168 | 0 => 0 | 53 => 185 | 55 => 38 | 4 => 4 | 46 => 178 | 45 => 177 | 50 => 182 | 5 => 5 | 9 => 9 | 66 => 208 | 70 => 212 | 76 => 232 | 77 => 233 | n => n, fun | n => n⟩
theorem Tryz.sortSp : Go.Proofs.SlLaysF0.n6 Tryz.prog Tryz.sortSp_ren := {
  mixed := by kernel_rfl
  f6 := ⟨Tryz.f82.name, by decide, Tryz.func82.trans (congrArg some (by kernel_rfl))⟩
  f14 := ⟨Tryz.f105.name, by decide, Tryz.func105.trans (congrArg some (by kernel_rfl))⟩
  f15 := Tryz.func106.trans (congrArg some (by kernel_rfl))
  f20 := ⟨Tryz.f115.name, by decide, Tryz.func115.trans (congrArg some (by kernel_rfl))⟩
  f21 := ⟨Tryz.f116.name, by decide, Tryz.func116.trans (congrArg some (by kernel_rfl))⟩
  f22 := ⟨Tryz.f117.name, by decide, Tryz.func117.trans (congrArg some (by kernel_rfl))⟩
  f23 := ⟨Tryz.f118.name, by decide, Tryz.func118.trans (congrArg some (by kernel_rfl))⟩
  f24 := ⟨Tryz.f119.name, by decide, Tryz.func119.trans (congrArg some (by kernel_rfl))⟩
  f25 := ⟨Tryz.f120.name, by decide, Tryz.func120.trans (congrArg some (by kernel_rfl))⟩
  f26 := ⟨Tryz.f121.name, by decide, Tryz.func121.trans (congrArg some (by kernel_rfl))⟩
  f27 := ⟨Tryz.f122.name, by decide, Tryz.func122.trans (congrArg some (by kernel_rfl))⟩
  f28 := Tryz.func123.trans (congrArg some (by kernel_rfl))
  f29 := Tryz.func124.trans (congrArg some (by kernel_rfl))
  f46 := ⟨Tryz.f148.name, by decide, Tryz.func148.trans (congrArg some (by kernel_rfl))⟩
  f47 := Tryz.func149.trans (congrArg some (by kernel_rfl))
  f48 := Tryz.func150.trans (congrArg some (by kernel_rfl))
  f49 := ⟨Tryz.f151.name, by decide, Tryz.func151.trans (congrArg some (by kernel_rfl))⟩
  f50 := ⟨Tryz.f152.name, by decide, Tryz.func152.trans (congrArg some (by kernel_rfl))⟩
  f57 := ⟨Tryz.f168.name, by decide, Tryz.func168.trans (congrArg some (by kernel_rfl))⟩
  t0 := Tryz.underlying0
  a0 := Tryz.isAgg0
  z0 := Tryz.sizeOf0
  v0 := Tryz.zeroValue0
  t3 := Tryz.underlying3
  a3 := Tryz.isAgg3
  z3 := Tryz.sizeOf3
  v3 := Tryz.zeroValue3
  t4 := Tryz.underlying4
  a4 := Tryz.isAgg4
  z4 := Tryz.sizeOf4
  v4 := Tryz.zeroValue4
  t5 := Tryz.underlying5
  a5 := Tryz.isAgg5
  z5 := Tryz.sizeOf5
  v5 := Tryz.zeroValue5
  t9 := Tryz.underlying9
  a9 := Tryz.isAgg9
  z9 := Tryz.sizeOf9
  v9 := Tryz.zeroValue9
  t22 := Tryz.underlying70
  a22 := Tryz.isAgg70
  z22 := Tryz.sizeOf70
  v22 := Tryz.zeroValue70
  t25 := Tryz.underlying102
  a25 := Tryz.isAgg102
  z25 := Tryz.sizeOf102
  v25 := Tryz.zeroValue102
  t39 := Tryz.underlying168
  a39 := Tryz.isAgg168
  z39 := Tryz.sizeOf168
  v39 := Tryz.zeroValue168
  t45 := Tryz.underlying177
  a45 := Tryz.isAgg177
  z45 := Tryz.sizeOf177
  v45 := Tryz.zeroValue177
  t46 := Tryz.underlying178
  a46 := Tryz.isAgg178
  z46 := Tryz.sizeOf178
  v46 := Tryz.zeroValue178
  t50 := Tryz.underlying182
  a50 := Tryz.isAgg182
  z50 := Tryz.sizeOf182
  v50 := Tryz.zeroValue182
  t53 := Tryz.underlying185
  a53 := Tryz.isAgg185
  z53 := Tryz.sizeOf185
  v53 := Tryz.zeroValue185
  t55 := Tryz.underlying38
  a55 := Tryz.isAgg38
  z55 := Tryz.sizeOf38
  v55 := Tryz.zeroValue38
  t66 := Tryz.underlying208
  a66 := Tryz.isAgg208
  z66 := Tryz.sizeOf208
  v66 := Tryz.zeroValue208
  t70 := Tryz.underlying212
  a70 := Tryz.isAgg212
  z70 := Tryz.sizeOf212
  v70 := Tryz.zeroValue212
  t76 := Tryz.underlying232
  a76 := Tryz.isAgg232
  z76 := Tryz.sizeOf232
  v76 := Tryz.zeroValue232
  t77 := Tryz.underlying233
  a77 := Tryz.isAgg233
  z77 := Tryz.sizeOf233
  v77 := Tryz.zeroValue233 }
def Tryz.sortPo_ren : Go.Shelf.Ren := ⟨fun | 6 => 84 | 15 => 106 | 14 => 107 | 28 => 123 | 29 => 124 | 20 => 125 | 21 => 126 | 22 => 127 | 23 => 128 | 24 => 129 | 25 => 130 | 26 => 131 | 27 => 132 | 46 => 153 | 47 => 149 | 48 => 150 | 49 => 154 | 50 => 155 | 57 => 169 | n => n, fun | 22 => 59 | 24 => 68 | 25 => 108 | 3 => 3 | 39 => 168 | 0 => 0 | 53 => 185 | 55 => 38 | 4 => 4 | 46 => 178 | 45 => 177 | 50 => 182 | 5 => 5 | 9 => 9 | 66 => 208 | 70 => 212 | 76 => 232 | 77 => 233 | n => n, fun | n => n⟩
theorem Tryz.sortPo : Go.Proofs.SlLaysF0.n6 Tryz.prog Tryz.sortPo_ren := {
  mixed := by kernel_rfl
  f6 := ⟨Tryz.f84.name, by decide, Tryz.func84.trans (congrArg some (by kernel_rfl))⟩
  f14 := ⟨Tryz.f107.name, by decide, Tryz.func107.trans (congrArg some (by kernel_rfl))⟩
  f15 := Tryz.func106.trans (congrArg some (by kernel_rfl))
  f20 := ⟨Tryz.f125.name, by decide, Tryz.func125.trans (congrArg some (by kernel_rfl))⟩
  f21 := ⟨Tryz.f126.name, by decide, Tryz.func126.trans (congrArg some (by kernel_rfl))⟩
  f22 := ⟨Tryz.f127.name, by decide, Tryz.func127.trans (congrArg some (by kernel_rfl))⟩
  f23 := ⟨Tryz.f128.name, by decide, Tryz.func128.trans (congrArg some (by kernel_rfl))⟩
  f24 := ⟨Tryz.f129.name, by decide, Tryz.func129.trans (congrArg some (by kernel_rfl))⟩
  f25 := ⟨Tryz.f130.name, by decide, Tryz.func130.trans (congrArg some (by kernel_rfl))⟩
  f26 := ⟨Tryz.f131.name, by decide, Tryz.func131.trans (congrArg some (by kernel_rfl))⟩
  f27 := ⟨Tryz.f132.name, by decide, Tryz.func132.trans (congrArg some (by kernel_rfl))⟩
  f28 := Tryz.func123.trans (congrArg some (by kernel_rfl))
  f29 := Tryz.func124.trans (congrArg some (by kernel_rfl))
  f46 := ⟨Tryz.f153.name, by decide, Tryz.func153.trans (congrArg some (by kernel_rfl))⟩
  f47 := Tryz.func149.trans (congrArg some (by kernel_rfl))
  f48 := Tryz.func150.trans (congrArg some (by kernel_rfl))
  f49 := ⟨Tryz.f154.name, by decide, Tryz.func154.trans (congrArg some (by kernel_rfl))⟩
  f50 := ⟨Tryz.f155.name, by decide, Tryz.func155.trans (congrArg some (by kernel_rfl))⟩
  f57 := ⟨Tryz.f169.name, by decide, Tryz.func169.trans (congrArg some (by kernel_rfl))⟩
  t0 := Tryz.underlying0
  a0 := Tryz.isAgg0
  z0 := Tryz.sizeOf0
  v0 := Tryz.zeroValue0
  t3 := Tryz.underlying3
  a3 := Tryz.isAgg3
  z3 := Tryz.sizeOf3
  v3 := Tryz.zeroValue3
  t4 := Tryz.underlying4
  a4 := Tryz.isAgg4
  z4 := Tryz.sizeOf4
  v4 := Tryz.zeroValue4
  t5 := Tryz.underlying5
  a5 := Tryz.isAgg5
  z5 := Tryz.sizeOf5
  v5 := Tryz.zeroValue5
  t9 := Tryz.underlying9
  a9 := Tryz.isAgg9
  z9 := Tryz.sizeOf9
  v9 := Tryz.zeroValue9
  t22 := Tryz.underlying59
  a22 := Tryz.isAgg59
  z22 := Tryz.sizeOf59
  v22 := Tryz.zeroValue59
  t25 := Tryz.underlying108
  a25 := Tryz.isAgg108
  z25 := Tryz.sizeOf108
  v25 := Tryz.zeroValue108
  t39 := Tryz.underlying168
  a39 := Tryz.isAgg168
  z39 := Tryz.sizeOf168
  v39 := Tryz.zeroValue168
  t45 := Tryz.underlying177
  a45 := Tryz.isAgg177
  z45 := Tryz.sizeOf177
  v45 := Tryz.zeroValue177
  t46 := Tryz.underlying178
  a46 := Tryz.isAgg178
  z46 := Tryz.sizeOf178
  v46 := Tryz.zeroValue178
  t50 := Tryz.underlying182
  a50 := Tryz.isAgg182
  z50 := Tryz.sizeOf182
  v50 := Tryz.zeroValue182
  t53 := Tryz.underlying185
  a53 := Tryz.isAgg185
  z53 := Tryz.sizeOf185
  v53 := Tryz.zeroValue185
  t55 := Tryz.underlying38
  a55 := Tryz.isAgg38
  z55 := Tryz.sizeOf38
  v55 := Tryz.zeroValue38
  t66 := Tryz.underlying208
  a66 := Tryz.isAgg208
  z66 := Tryz.sizeOf208
  v66 := Tryz.zeroValue208
  t70 := Tryz.underlying212
  a70 := Tryz.isAgg212
  z70 := Tryz.sizeOf212
  v70 := Tryz.zeroValue212
  t76 := Tryz.underlying232
  a76 := Tryz.isAgg232
  z76 := Tryz.sizeOf232
  v76 := Tryz.zeroValue232
  t77 := Tryz.underlying233
  a77 := Tryz.isAgg233
  z77 := Tryz.sizeOf233
  v77 := Tryz.zeroValue233 }
end Go.Proofs

/- Sorting rows of ranges and of ports (slices.SortFunc) in blocks of one's own. -/
namespace Go.Proofs.YthglckoikjfjkaaGreatDoor
open Go.RowKit Go.Shelf Go.Sort

theorem flats_len {α : Type} (cells : α → List Value) (size : Nat) (hc : ∀ x, (cells x).length = size) (l : List α) : (l.flatMap cells).length = l.length * size := by
  induction l with
  | nil => simp
  | cons x r ih => rw [List.flatMap_cons, List.length_append, ih, hc, List.length_cons, Nat.succ_mul, Nat.add_comm]
section
variable {α : Type} [Inhabited α] (enc : α → List Value) (k : Nat) (hk : ∀ x, (enc x).length = k)
include hk in
theorem flatK_list (hk0 : 0 < k) (d : Array α) : (flatK enc k d).toList = d.toList.flatMap enc := by
  apply List.ext_getElem?
  intro j
  by_cases hj : j < d.size * k
  · have hq : j / k < d.size := (Nat.div_lt_iff_lt_mul hk0).2 hj
    have hr : j % k < k := Nat.mod_lt _ hk0
    have hx : d.toList[j / k]? = some d[j / k]! := by
      rw [Array.getElem?_toList, Array.getElem?_eq_getElem hq, getElem!_pos d _ hq]
    have hu : ∀ X : α, (enc X)[j % k]? = some (enc X)[j % k]! := by
      intro X
      have hX : j % k < (enc X).length := by rw [hk]; exact hr
      rw [List.getElem?_eq_getElem hX, getElem!_pos (enc X) (j % k) hX]
    have h1 := flat_at enc k hk hx (hu _)
    rw [Nat.mul_comm, Nat.div_add_mod] at h1
    rw [h1, Array.getElem?_toList, Array.getElem?_eq_getElem (by rw [size_flatK]; exact hj), ← getElem!_pos (flatK enc k d) j (by rw [size_flatK]; exact hj), get_flatK enc k d j hj]
  · rw [List.getElem?_eq_none (by rw [Array.length_toList, size_flatK]; omega), List.getElem?_eq_none (by rw [flats_len enc k hk, Array.length_toList]; omega)]
include hk in
theorem own_holds (hk0 : 0 < k) {w : World} {base g n cap : Nat} {e : TypeId} {l : List α} (h : w.ownsRow base e k (.slice (some ⟨g, 0, none⟩) n cap) n (l.flatMap enc)) (hl : l.length = n) : HoldsK enc k w g 0 l.toArray ∧ g < w.heap.size ∧ base ≤ g := by
  rcases h.2 with ⟨e0, _⟩ | ⟨g', cap', cur, e0, hb, hg, h1, h2, h3, h4⟩
  · cases e0
  · injection e0 with e0 _ _
    injection e0 with e0
    injection e0 with e0
    subst e0
    refine ⟨fun j hj => ?_, (Array.getElem?_eq_some_iff.1 hg).1, hb⟩
    rw [size_flatK, List.size_toArray, hl] at hj
    have hF := flatK_list enc k hk hk0 l.toArray
    have hz : j < (flatK enc k l.toArray).size := by rw [size_flatK, List.size_toArray, hl]; exact hj
    have hc : cur[j]? = some (flatK enc k l.toArray)[j]! := by
      have e : (flatK enc k l.toArray)[j]? = (l.flatMap enc)[j]? := (Array.getElem?_toList).symm.trans (by rw [hF])
      rw [getElem!_pos (flatK enc k l.toArray) j hz, ← Array.getElem?_eq_getElem hz, e, ← h4, List.getElem?_take, if_pos hj, Array.getElem?_toList]
    constructor
    · unfold World.cell?
      simp only [hg]
      rw [if_neg (by simp)]
      show cur[0 + j]? = _
      rw [Nat.zero_add, hc]
      rfl
    · exact World.ownsRow.frozenAt h _
include hk in
theorem own_sorted (hk0 : 0 < k) {w : World} {base g n cap : Nat} {e : TypeId} {l : List α} (h : w.ownsRow base e k (.slice (some ⟨g, 0, none⟩) n cap) n (l.flatMap enc)) (d : Array α) (hd : d.size = n) (m : Nat) (os : Array Obj) :
    (sortWorldK enc k w g 0 m d os).ownsRow base e k (.slice (some ⟨g, 0, none⟩) n cap) n (d.toList.flatMap enc) ∧ Below base w (sortWorldK enc k w g 0 m d os) := by
  rcases h.2 with ⟨e0, _⟩ | ⟨g', cap', cur, e0, hb, hg, h1, h2, h3, h4⟩
  · cases e0
  · injection e0 with e0 _ e3
    injection e0 with e0
    injection e0 with e0
    subst e0 e3
    have hgs := (Array.getElem?_eq_some_iff.1 hg).1
    have hF := flatK_list enc k hk hk0 d
    have hFs : (flatK enc k d).size = n * k := by rw [size_flatK, hd]
    have hnc : n * k ≤ cap * k := Nat.mul_le_mul_right k h1
    refine ⟨⟨by rw [flats_len enc k hk, Array.length_toList, hd], .inr ⟨g, cap, putCells id 0 (flatK enc k d) cur, rfl, hb, ?_, h1, h2, ?_, ?_⟩⟩, ?_⟩
    · unfold sortWorldK putRowK putRow mapBlock Sort.grow Sort.ahead
      simp only
      rw [Array.getElem?_append_left (by rw [Array.size_modify]; exact hgs), Array.getElem?_modify, if_pos rfl, hg]
      rfl
    · unfold putCells
      rw [Array.size_mapIdx]
      exact h3
    · apply List.ext_getElem?
      intro j
      rw [List.getElem?_take]
      by_cases hj : j < n * k
      · have hjc : j < cur.size := by omega
        rw [if_pos hj, ← hF, Array.getElem?_toList, Array.getElem?_toList]
        unfold putCells
        rw [Array.getElem?_mapIdx, Array.getElem?_eq_getElem hjc, Option.map_some, if_pos ⟨Nat.zero_le _, by omega⟩, Array.getElem?_eq_getElem (by rw [hFs]; exact hj), Nat.sub_zero, getElem!_pos _ _ (by rw [hFs]; exact hj)]
        rfl
      · rw [if_neg hj, List.getElem?_eq_none (by rw [flats_len enc k hk, Array.length_toList, hd]; omega)]
    · refine ⟨rfl, rfl, rfl, ?_, fun q hq => ?_⟩
      · unfold sortWorldK putRowK putRow mapBlock Sort.grow Sort.ahead
        simp
      · unfold sortWorldK putRowK putRow mapBlock Sort.grow Sort.ahead
        simp only
        rw [Array.getElem?_append_left (by rw [Array.size_modify]; omega), Array.getElem?_modify, if_neg (by omega)]
end
/-- What a sort leaves: the same elements, in order. -/
theorem sorted_list {α : Type} [Inhabited α] {lt : α → α → Bool} {l : List α} {d : Array α} (hp : PermIn 0 l.toArray.size l.toArray d) (hs : SortedIn lt 0 l.toArray.size d) : d.toList.Perm l ∧ d.toList.Pairwise fun x y => lt y x = false := by
  obtain ⟨h1, _, h3⟩ := hp
  constructor
  · have e1 : (d.extract 0 l.toArray.size).toList = d.toList := by rw [← h1, Array.extract_size]
    have e2 : (l.toArray.extract 0 l.toArray.size).toList = l := by rw [Array.extract_size]
    rw [e1, e2] at h3
    exact h3
  · rw [List.pairwise_iff_getElem]
    intro i j hi hj hij
    have hj' : j < d.size := by simpa using hj
    have hi' : i < d.size := by simpa using hi
    have := hs i j (Nat.zero_le _) hij (by rw [← h1]; exact hj')
    rw [getElem!_pos d _ hj', getElem!_pos d _ hi'] at this
    simpa using this

instance : Inhabited Ad := ⟨⟨false, 0, 0⟩⟩
theorem lt_sp (x y : Sp) : ltOf (fun a b : Sp => cmpA a.1 b.1) x y = lessA x.1 y.1 := cmp_lt x.1 y.1
theorem less_iff (a b : Ad) : lessA a b = true ↔ (a.v6 = false ∧ b.v6 = true) ∨ (a.v6 = b.v6 ∧ (a.hi < b.hi ∨ (a.hi = b.hi ∧ a.lo < b.lo))) := by
  obtain ⟨v, x, l⟩ := a
  obtain ⟨v', x', l'⟩ := b
  unfold lessA
  simp only
  by_cases hx : x = x'
  · subst hx
    cases v <;> cases v' <;> simp
  · cases v <;> cases v' <;> simp [hx]
theorem less_false (a b : Ad) : lessA a b = false ↔ (a.v6 = true ∧ b.v6 = false) ∨ (a.v6 = b.v6 ∧ (b.hi < a.hi ∨ (a.hi = b.hi ∧ b.lo ≤ a.lo))) := by
  obtain ⟨v, x, l⟩ := a
  obtain ⟨v', x', l'⟩ := b
  unfold lessA
  simp only
  by_cases hx : x = x'
  · subst hx
    cases v <;> cases v' <;> simp
  · cases v <;> cases v' <;> simp [hx] <;> omega
theorem less_trans {a b c : Ad} (h1 : lessA a b = true) (h2 : lessA b c = true) : lessA a c = true := by
  rw [less_iff] at *
  obtain ⟨v, x, l⟩ := a
  obtain ⟨v', x', l'⟩ := b
  obtain ⟨v'', x'', l''⟩ := c
  simp only at *
  cases v <;> cases v' <;> cases v'' <;> simp at h1 h2 ⊢ <;> omega
theorem less_ntrans {a b c : Ad} (h1 : lessA a b = false) (h2 : lessA b c = false) : lessA a c = false := by
  rw [less_false] at *
  obtain ⟨v, x, l⟩ := a
  obtain ⟨v', x', l'⟩ := b
  obtain ⟨v'', x'', l''⟩ := c
  simp only at *
  cases v <;> cases v' <;> cases v'' <;> simp at h1 h2 ⊢ <;> omega
theorem less_irrefl (a : Ad) : lessA a a = false := by
  unfold lessA
  simp
theorem swoSp : SWO (ltOf fun a b : Sp => cmpA a.1 b.1) where
  irrefl x := by rw [lt_sp]; exact less_irrefl _
  trans x y z h1 h2 := by rw [lt_sp] at *; exact less_trans h1 h2
  ntrans x y z h1 h2 := by rw [lt_sp] at *; exact less_ntrans h1 h2
theorem lt_po (x y : Nat × Nat) : ltOf (fun a b : Nat × Nat => cmpN a.1 b.1) x y = decide (x.1 < y.1) := by
  unfold ltOf cmpN
  by_cases h1 : x.1 < y.1
  · simp [h1]
  · by_cases h2 : y.1 < x.1 <;> simp [h1, h2]
theorem swoPo : SWO (ltOf fun a b : Nat × Nat => cmpN a.1 b.1) where
  irrefl x := by rw [lt_po]; simp
  trans x y z h1 h2 := by rw [lt_po] at *; simp at *; omega
  ntrans x y z h1 h2 := by rw [lt_po] at *; simp at *; omega
set_option maxHeartbeats 1000000 in
theorem sortSp_any {w : World} {base g cap : Nat} {l : List Sp} (hl : l.length ≤ 4000000) (h : w.ownsRow base 73 6 (.slice (some ⟨g, 0, none⟩) l.length cap) l.length (spCells l)) :
    Calls Tryz.prog 82 #[.slice (some ⟨g, 0, none⟩) l.length cap, .func (.func 44) #[] #[]] w fun r w' =>
      r = .returned (.tuple #[]) ∧ ∃ S : List Sp, S.Perm l ∧ S.Pairwise (fun x y => lessA y.1 x.1 = false) ∧ w'.ownsRow base 73 6 (.slice (some ⟨g, 0, none⟩) l.length cap) l.length (spCells S) ∧ Below base w w' := by
  have eg : ∀ args w, (callFunc 44 args).run Tryz.prog w = .ok (.enter 44 args) w := enters_of Tryz.func44 (by kernel_rfl) rfl
  obtain ⟨hH, hg, hb⟩ := own_holds (fun s : Sp => s.cells.toList) 6 sp_len' (by decide) h rfl
  have hcmp : CmpLays Tryz.prog 44 #[] (fun s : Sp => s.cells.toList) 6 (fun a b : Sp => cmpA a.1 b.1) g 0 l.toArray.size w := fun m os dk _ x y => (norm2_any x y _).mono fun _ _ ⟨e, hq⟩ => ⟨e, hq⟩
  have hcon := AnyQ.slices_SortFunc Tryz.sortSp 6 Tryz.isAgg73 Tryz.sizeOf73 (fun s : Sp => s.cells.toList) sp_len' (fun x v hv => by simp [Sp.cells] at hv; rcases hv with rfl | rfl | rfl | rfl | rfl | rfl <;> rfl) (fun a b : Sp => cmpA a.1 b.1) swoSp 44 #[] g 0 cap l.toArray w eg hcmp hH hg (by rw [List.size_toArray]; omega)
  refine hcon.mono ?_
  rintro r w' ⟨rfl, d, n, os, hp, hs, rfl⟩
  obtain ⟨p1, p2⟩ := sorted_list hp hs
  obtain ⟨o1, o2⟩ := own_sorted (fun s : Sp => s.cells.toList) 6 sp_len' (by decide) h d (by have := hp.1; simpa using this) n os
  refine ⟨rfl, d.toList, p1, p2.imp fun {x y} hxy => ?_, o1, o2⟩
  rw [lt_sp] at hxy
  exact hxy
set_option maxHeartbeats 1000000 in
theorem sortPo_any {w : World} {base g cap : Nat} {l : List (Nat × Nat)} (hl : l.length ≤ 4000000) (h : w.ownsRow base 68 2 (.slice (some ⟨g, 0, none⟩) l.length cap) l.length (portCells l)) :
    Calls Tryz.prog 84 #[.slice (some ⟨g, 0, none⟩) l.length cap, .func (.func 49) #[] #[]] w fun r w' =>
      r = .returned (.tuple #[]) ∧ ∃ S : List (Nat × Nat), S.Perm l ∧ S.Pairwise (fun x y => x.1 ≤ y.1) ∧ w'.ownsRow base 68 2 (.slice (some ⟨g, 0, none⟩) l.length cap) l.length (portCells S) ∧ Below base w w' := by
  have eg : ∀ args w, (callFunc 49 args).run Tryz.prog w = .ok (.enter 49 args) w := enters_of Tryz.func49 (by kernel_rfl) rfl
  have hpo : ∀ x : Nat × Nat, ([Value.int .u16 (x.1 : Int), .int .u16 (x.2 : Int)] : List Value).length = 2 := fun _ => rfl
  obtain ⟨hH, hg, hb⟩ := own_holds (fun x : Nat × Nat => [Value.int .u16 (x.1 : Int), .int .u16 (x.2 : Int)]) 2 hpo (by decide) h rfl
  have hcmp : CmpLays Tryz.prog 49 #[] (fun x : Nat × Nat => [Value.int .u16 (x.1 : Int), .int .u16 (x.2 : Int)]) 2 (fun a b : Nat × Nat => cmpN a.1 b.1) g 0 l.toArray.size w := fun m os dk _ x y => (ports1_any x y _).mono fun _ _ ⟨e, hq⟩ => ⟨e, hq⟩
  have hcon := AnyQ.slices_SortFunc Tryz.sortPo 2 Tryz.isAgg68 Tryz.sizeOf68 (fun x : Nat × Nat => [Value.int .u16 (x.1 : Int), .int .u16 (x.2 : Int)]) hpo (fun x v hv => by simp at hv; rcases hv with rfl | rfl <;> rfl) (fun a b : Nat × Nat => cmpN a.1 b.1) swoPo 49 #[] g 0 cap l.toArray w eg hcmp hH hg (by rw [List.size_toArray]; omega)
  refine hcon.mono ?_
  rintro r w' ⟨rfl, d, n, os, hp, hs, rfl⟩
  obtain ⟨p1, p2⟩ := sorted_list hp hs
  obtain ⟨o1, o2⟩ := own_sorted (fun x : Nat × Nat => [Value.int .u16 (x.1 : Int), .int .u16 (x.2 : Int)]) 2 hpo (by decide) h d (by have := hp.1; simpa using this) n os
  refine ⟨rfl, d.toList, p1, p2.imp fun {x y} hxy => ?_, o1, o2⟩
  rw [lt_po] at hxy
  simpa using hxy
end Go.Proofs.YthglckoikjfjkaaGreatDoor
