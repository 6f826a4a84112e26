/- Joined out of: Fb TwA NuA PlC PlD PlF PlG Sm TwB. -/
import Derived.Test.YthglckoikjfjkaaGreatDoorSab
import Derived.IntWalk
import Derived.Test.YthglckoikjfjkaaGreatDoorSaa
import Derived.Maps.AppendAt
import Derived.Lib.SplitLaws
import Derived.Deep.Onto
import Derived.Deep.RegionHeld3
import Derived.Deep.DrawnRows
import Derived.Shelf.Strings.FieldsFuncGrows
import Derived.Lib.MapLaws
import Derived.BigRegion
import Derived.Maps.RangeRun
set_option linter.unusedVariables false
set_option linter.unusedSimpArgs false

/- strconv.FormatUint of base 16: the walk. -/
namespace Go.Proofs.YthglckoikjfjkaaGreatDoor
open Go.RowKit

theorem tz64 {w : World} (h : w.cell? ⟨3, 15, none⟩ = some (.int .u8 4)) : Calls Tryz.prog 171 #[.int .u64 16] w fun e w' => e = .returned (.int .i64 4) ∧ w = w' := by
  have e1 : IntKind.u64.wrap (bits BinOp.and IntKind.u64 16 (IntKind.u64.wrap (-16)) * 285870213051353865) / 288230376151711744 = 15 := by kernel_rfl
  go_enter Tryz.func171, Tryz.ntmps171
  go_wp2_with fail
  go_ret
  exact ⟨rfl, rfl⟩
theorem tz_ {w : World} (h : w.cell? ⟨3, 15, none⟩ = some (.int .u8 4)) : Calls Tryz.prog 159 #[.int .u64 16] w fun e w' => e = .returned (.int .i64 4) ∧ w = w' := by
  have H := Lib.hid h
  clear h
  go_enter Tryz.func159, Tryz.ntmps159
  go_wp2_with (go_at_call 171; refine (tz64 H.out).mono ?_; rintro e wf ⟨rfl, rfl⟩)
  go_ret
  exact ⟨rfl, rfl⟩
theorem pow2_ {w : World} : Calls Tryz.prog 158 #[.int .i64 16] w fun e w' => e = .returned (.bool true) ∧ w = w' := by
  go_enter Tryz.func158, Tryz.ntmps158
  go_wp2_with fail
  go_ret
  exact ⟨rfl, rfl⟩

/- The row of 65 bytes: the last ones are t. -/
structure HexRow (w : World) (g : Nat) (t : List UInt8) : Prop where
  row : ∃ cs : Array Value, Blk w g 219 cs ∧ cs.size = 65 ∧ (∀ i, i < 65 → ∃ v, cs[i]? = some v) ∧ ∀ j (hj : j < t.length), cs[65 - t.length + j]? = some (.int .u8 ((t[j]'hj).toNat : Int))
theorem HexRow.cell {w : World} {g : Nat} {t : List UInt8} (h : HexRow w g t) (i : Nat) (hi : i < 65) : ∃ v, w.cell? ⟨g, i, none⟩ = some v := by
  obtain ⟨cs, hb, _, ha, _⟩ := h.row
  obtain ⟨v, hv⟩ := ha i hi
  exact ⟨v, (hb.cell i).trans hv⟩
theorem HexRow.frozen {w : World} {g : Nat} {t : List UInt8} (h : HexRow w g t) (i : Nat) : w.frozen? ⟨g, i, none⟩ = false := by
  obtain ⟨cs, hb, _⟩ := h.row
  exact hb.frozen i
theorem HexRow.put {w : World} {g : Nat} {t : List UInt8} (h : HexRow w g t) (ht : t.length < 65) (c : UInt8) : HexRow (w.setCell ⟨g, 64 - t.length, none⟩ (.int .u8 (c.toNat : Int))) g (c :: t) := by
  obtain ⟨cs, hb, hs, ha, hc⟩ := h.row
  refine ⟨_, hb.set_ _ _, by simp [hs], fun i hi => ?_, fun j hj => ?_⟩
  · rw [Array.getElem?_setIfInBounds]
    split
    · exact ⟨_, by rw [if_pos (by omega)]⟩
    · exact ha i hi
  · rw [List.length_cons] at hj ⊢
    rw [Array.getElem?_setIfInBounds]
    cases j with
    | zero => rw [if_pos (by omega), if_pos (by omega)]; rfl
    | succ j =>
      rw [if_neg (by omega), List.getElem_cons_succ]
      have := hc j (by omega)
      rw [← this]
      congr 1
      omega
theorem hexL_step {x y : Nat} {t : List UInt8} (h : hexL x = hexL y ++ t) (hy : 16 ≤ y) : hexL x = hexL (y / 16) ++ (hexd (y % 16) :: t) := by
  rw [h]
  conv => lhs; arg 1; unfold hexL
  rw [dif_neg (by omega), List.append_assoc]
  rfl
theorem hexL_last {x y : Nat} {t : List UInt8} (h : hexL x = hexL y ++ t) (hy : y < 16) : hexL x = hexd y :: t := by
  rw [h]
  conv => lhs; arg 1; unfold hexL
  rw [dif_pos hy]
  rfl
theorem digits36_at (d : Nat) (h : d < 16) : ((⟨#[48, 49, 50, 51, 52, 53, 54, 55, 56, 57, 97, 98, 99, 100, 101, 102, 103, 104, 105, 106, 107, 108, 109, 110, 111, 112, 113, 114, 115, 116, 117, 118, 119, 120, 121, 122]⟩ : ByteArray)[d]'(Nat.lt_trans h (by decide))).toNat = (hexd d).toNat := by
  have : ∀ d : Fin 16, ((⟨#[48, 49, 50, 51, 52, 53, 54, 55, 56, 57, 97, 98, 99, 100, 101, 102, 103, 104, 105, 106, 107, 108, 109, 110, 111, 112, 113, 114, 115, 116, 117, 118, 119, 120, 121, 122]⟩ : ByteArray)[d.1]'(Nat.lt_trans d.2 (by decide))).toNat = (hexd d.1).toNat := by decide
  exact this ⟨d, h⟩
theorem slice65 (g n : Nat) (hn : n ≤ 64) (W : World) : (Instr.sliceAt 219 (.pointer (some ⟨g, 0, none⟩)) (some (.int .i64 ((65 : Int) - (n : Int) - 1))) none none).run Tryz.prog W = .ok (.slice (some ⟨g, 64 - n, none⟩) (n + 1) (n + 1)) W := by
  have ha : Tryz.prog.arrayLen 219 = 65 := by kernel_rfl
  have hu : Tryz.prog.underlying 219 = some (.array (Tryz.prog.arrayLen 219) (Tryz.prog.elem 219)) := by kernel_rfl
  have hs : (sizeOf (Tryz.prog.elem 219)).run Tryz.prog W = .ok 1 W := by kernel_rfl
  rw [run_sliceAt_array_l W _ _ hu .i64 ((65 : Int) - (n : Int) - 1) (by omega) (by rw [ha]; omega), hs, ha]
  have e : ((65 : Int) - (n : Int) - 1).toNat = 64 - n := by omega
  rw [e]
  show Result.ok (Value.slice (some (if 65 = 64 - n then (⟨g, 0, none⟩ : Addr) else (⟨g, 0, none⟩ : Addr).add ((64 - n) * 1))) (65 - (64 - n)) (65 - (64 - n))) W = _
  rw [if_neg (by omega), show 65 - (64 - n) = n + 1 by omega]
  have e2 : (⟨g, 0, none⟩ : Addr).add ((64 - n) * 1) = ⟨g, 64 - n, none⟩ := by unfold Addr.add; split <;> simp_all
  rw [e2]

set_option maxHeartbeats 1000000 in
set_option maxRecDepth 100000 in
theorem bits16 {w : World} (x : Nat) (hx : x < 65536) (h : w.cell? ⟨3, 15, none⟩ = some (.int .u8 4)) : Calls Tryz.prog 137 #[.slice none 0 0, .int .u64 (x : Int), .int .i64 16, .bool false, .bool false] w fun e w' => e = .returned (.tuple #[.slice none 0 0, .string ⟨(hexL x).toArray⟩]) ∧ Below w.heap.size w w' := by
  have H := Lib.hid (h : w.cell? ⟨3, 15, none⟩ = some (.int .u8 4))
  have h5 : 3 < w.heap.size := World.block_lt_of_cell? w _ h
  have TZ := fun o => tz_ (w := w.alloc o) ((((Below.refl w.heap.size w).alloc (Nat.le_refl _) o).cell (p := ⟨3, 15, none⟩) h5).trans h)
  clear h
  go_enter Tryz.func137, Tryz.ntmps137
  go_wp2_with (first
    | (go_at_call 158; refine pow2_.mono ?_; rintro e wf ⟨rfl, rfl⟩)
    | (go_at_call 159; refine (TZ _).mono ?_; rintro e wf ⟨rfl, rfl⟩))
  go_loopw [1, 13] (fun u i wr => ∃ (y : Nat) (t : List UInt8), t.length ≤ 15 ∧ y < 16 ^ (16 - t.length) ∧ u = .int .u64 (y : Int) ∧ i = .int .i64 ((65 : Int) - (t.length : Int)) ∧ RowKit.Hid (hexL x = hexL y ++ t) ∧ HexRow wr w.heap.size t ∧ Below w.heap.size w wr) (fun u _ _ => (intOf u).toNat)
  case atStart =>
    have hz : (Tryz.zeroCells219 : Array Value).size = 65 := by kernel_rfl
    exact ⟨x, [], by decide, by simp; omega, rfl, rfl, Lib.hid (by simp), ⟨⟨Tryz.zeroCells219, Blk.new _ _ _, hz, fun i hi => ⟨_, Array.getElem?_eq_getElem (by rw [hz]; exact hi)⟩, fun j hj => absurd hj (by simp)⟩⟩, (Below.refl _ _).alloc (Nat.le_refl _) _⟩
  case round =>
    obtain ⟨y, t, ht, hy, rfl, rfl, hx, hr, hB⟩ := hrel
    have hyt : y < 18446744073709551616 := Nat.lt_of_lt_of_le hy (Nat.le_trans (Nat.pow_le_pow_right (by decide) (show 16 - t.length ≤ 16 by omega)) (by decide))
    have hput := fun c => hr.put (by omega : t.length < 65) c
    obtain ⟨v, hv⟩ := hr.cell (64 - t.length) (by omega)
    have hf := hr.frozen (64 - t.length)
    have e1 : ((65 : Int) - (t.length : Int) - 1).toNat = 64 - t.length := by omega
    have h0 : (0 : Int) ≤ (65 : Int) - (t.length : Int) - 1 := by omega
    have hlt := (show w.heap.size < wr.heap.size by obtain ⟨cs, hb, _⟩ := hr.row; exact hb.lt)
    by_cases hc : 16 ≤ y
    · have hstep := hexL_step hx.out hc
      have Hstep := Lib.hid hstep
      clear hstep
      have hpow : y / 16 < 16 ^ (16 - (t.length + 1)) := by
        have : 16 ^ (16 - t.length) = 16 ^ (16 - (t.length + 1)) * 16 := by
          rw [← Nat.pow_succ]
          congr 1
          omega
        omega
      have hn : t.length + 1 ≤ 15 := by
        rcases Nat.lt_or_ge t.length 15 with h | h
        · omega
        · have : t.length = 15 := by omega
          rw [this] at hy
          omega
      have ea : bits .and .u64 (y : Int) 15 = ((y % 16 : Nat) : Int) := by
        have h := u64_and_nat y 15 hyt (by decide)
        rw [show ((15 : Nat) : Int) = 15 from rfl] at h
        rw [h, show (15 : Nat) = 2 ^ 4 - 1 from rfl, Nat.and_two_pow_sub_one_eq_mod]
      have hm : y % 16 < 16 := Nat.mod_lt _ (by decide)
      have hd := digits36_at (y % 16) hm
      have hP := hput (hexd (y % 16))
      rw [← hd] at hP
      have Hput := Lib.hid hP
      have HB := Lib.hid hB
      have Hpow := Lib.hid hpow
      have Hx := Lib.hid hx
      clear hx hd hP hput hB hr hy hpow
      go_wp2_with fail
      go_roundw
      case rel =>
        exact ⟨y / 16, hexd (y % 16) :: t, by simpa using hn, Hpow.out, by go_num, by rw [List.length_cons]; congr 1; omega, Hstep, Hput.out, HB.out.setCell (Nat.le_refl _) _⟩
      case measure => simp [intOf]; omega
    · have hlast := hexL_last hx.out (by omega)
      have Hlast := Lib.hid hlast
      clear hlast
      have hm : y < 16 := by omega
      have hd := digits36_at y hm
      have hP := hput (hexd y)
      have hback := run_convert_bytes_back (P := Tryz.prog) (wr.setCell ⟨w.heap.size, 64 - t.length, none⟩ (.int .u8 ((hexd y).toNat : Int))) 57 9 5 ⟨w.heap.size, 64 - t.length, none⟩ (t.length + 1) (hexd y :: t) Tryz.underlying57 Tryz.underlying5 Tryz.underlying9 (fun j hj => by
        obtain ⟨cs, hb, hs, ha, hcc⟩ := hP.row
        have e : (⟨w.heap.size, 64 - t.length, none⟩ : Addr).add j = ⟨w.heap.size, 64 - t.length + j, none⟩ := by unfold Addr.add; split <;> simp_all
        rw [e]
        refine (hb.cell _).trans ?_
        have := hcc j hj
        rw [List.length_cons] at this
        rw [← this]
        congr 1
        omega)
      rw [← hd] at hP hback
      have Hput := Lib.hid hP
      have HB := Lib.hid hB
      clear hx hd hP hput hB hr hy
      have hsl := slice65 w.heap.size t.length (by omega)
      rw [List.length_cons] at hback
      go_wp2_with fail
      go_ret2
      exact ⟨show Ending.returned (.tuple #[.slice none 0 0, .string ⟨(hexd y :: t).toArray⟩]) = _ by rw [Hlast.out], HB.out.setCell (Nat.le_refl _) _⟩
theorem fmt16_ {w : World} (x : Nat) (hx : x < 65536) (h : w.cell? ⟨3, 15, none⟩ = some (.int .u8 4)) : Calls Tryz.prog 109 #[.int .u64 (x : Int), .int .i64 16] w fun e w' => e = .returned (.string ⟨(hexL x).toArray⟩) ∧ Below w.heap.size w w' := by
  have H := Lib.hid (bits16 x hx h)
  clear h
  go_enter Tryz.func109, Tryz.ntmps109
  go_wp2_with (go_at_call 137; refine H.out.mono ?_; rintro e wf ⟨rfl, hb⟩; have Hb := Lib.hid hb; clear hb)
  go_ret
  exact ⟨rfl, Hb.out⟩
theorem fmt16 {w : World} (x : Nat) (hx : x < 65536) (h : w.cell? ⟨3, 15, none⟩ = some (.int .u8 4)) : Calls Tryz.prog 90 #[.int .u64 (x : Int), .int .i64 16] w fun e w' => e = .returned (.string ⟨(hexL x).toArray⟩) ∧ Below w.heap.size w w' := by
  have H := Lib.hid (fmt16_ x hx h)
  clear h
  go_enter Tryz.func90, Tryz.ntmps90
  go_wp2_with (go_at_call 109; refine H.out.mono ?_; rintro e wf ⟨rfl, hb⟩; have Hb := Lib.hid hb; clear hb)
  go_ret
  exact ⟨rfl, Hb.out⟩
end Go.Proofs.YthglckoikjfjkaaGreatDoor

/- Texts of addresses, the program's: numbers joined; an address of IPv4; the eight numbers of IPv6: the walks. -/
namespace Go.Proofs.YthglckoikjfjkaaGreatDoor
open Go.RowKit

theorem info_str : (Tryz.prog.info? 9).map (fun i => (i.zero, i.size, i.bytes)) = some (some (.string ByteArray.empty), 1, 16) := by kernel_rfl
theorem own_below {w w' : World} {base size n : Nat} {e : TypeId} {v : Value} {xs : List Value} (h : w.ownsRow base e size v n xs) (hb : Below w.heap.size w w') : w'.ownsRow base e size v n xs :=
  h.kept (row := none) ⟨hb.os, hb.tape, hb.output, hb.size, fun k hk _ => hb.block k hk⟩ (by
    cases hv : v.ownBlock with
    | none => exact Or.inl rfl
    | some k => exact Or.inr (by simp))
/- The texts that are owned. -/
def strs (L : List (List UInt8)) : List ByteArray := L.map fun l => ⟨l.toArray⟩
theorem strs_lists (L : List (List UInt8)) : (strs L).map (·.data.toList) = L := by
  unfold strs
  rw [List.map_map]
  conv => rhs; rw [← List.map_id L]
  exact List.map_congr_left fun l _ => by simp
theorem own_form {w : World} {base n : Nat} {e : TypeId} {v : Value} {xs : List Value} (h : w.ownsRow base e 1 v (n + 1) xs) : ∃ g cap, v = .slice (some ⟨g, 0, none⟩) (n + 1) cap := by
  rcases h.2 with ⟨_, h⟩ | ⟨g, cap, _, h, _⟩
  · omega
  · exact ⟨g, cap, h⟩
/- strings.Join of what is owned. -/
theorem join_own {w : World} {base : Nat} {v : Value} {L : List (List UInt8)} (c : UInt8) (h : w.ownsRow base 9 1 v L.length ((strs L).map Value.string)) (hl : L.length ≤ 1000) (hj : (Lib.join L [c]).length ≤ 4000000) : Calls Tryz.prog 62 #[v, .string ⟨#[c]⟩] w fun r w' => r = .returned (.string ⟨(Lib.join L [c]).toArray⟩) ∧ Below w.heap.size w w' := by
  have hl2 : (strs L).length = L.length := by simp [strs]
  rcases h.2 with ⟨rfl, hn⟩ | ⟨g, cap, cur, rfl, hg, hh, hcap, _, hsz, htake⟩
  · have : L = [] := List.eq_nil_of_length_eq_zero hn
    subst this
    exact (Tryz.strings_Join_none none 0 ⟨#[c]⟩ w).mono fun r w' hq => ⟨hq.1.trans rfl, by obtain ⟨_, hb⟩ := hq; first | exact hb | (subst hb; exact Below.refl _ _)⟩
  · have hcell := fun j hj => h.cellAt (g := g) (cap := cap) j hj
    have := Tryz.strings_Join g 0 cap (strs L) ⟨#[c]⟩ w (fun j x hx => by
      have hj : j < (strs L).length := (List.getElem?_eq_some_iff.1 hx).1
      rw [Nat.zero_add]
      refine (hcell j (by omega)).trans ?_
      rw [List.getElem?_map, hx]
      rfl) (h.lt g rfl).2 (by omega) (by omega) (by rw [strs_lists]; simpa using (show (Lib.join L [c]).length ≤ 140737488355328 by omega))
    rw [hl2, strs_lists] at this
    exact this
end Go.Proofs.YthglckoikjfjkaaGreatDoor

/- The program's reading of numbers between signs: the walk. -/
namespace Go.Proofs.YthglckoikjfjkaaGreatDoor
open Go.RowKit

theorem info_u64 : (Tryz.prog.info? 38).map (fun i => (i.zero, i.size, i.bytes)) = some (some (.int .u64 0), 1, 8) := by kernel_rfl
def cellsU (L : List Nat) : List Value := L.map fun x : Nat => Value.int .u64 (x : Int)
theorem cellsU_snoc (L : List Nat) (x : Nat) : cellsU (L ++ [x]) = cellsU L ++ [.int .u64 (x : Int)] := by simp [cellsU]
theorem own_shape {w : World} {base size n : Nat} {e : TypeId} {v : Value} {xs : List Value} (h : w.ownsRow base e size v n xs) : ∃ A cap, v = .slice A n cap := by
  rcases h.2 with ⟨rfl, rfl⟩ | ⟨g, cap, cur, rfl, _⟩
  · exact ⟨none, 0, rfl⟩
  · exact ⟨_, _, rfl⟩
theorem split1_size {c : UInt8} : ∀ {l x : List UInt8}, x ∈ split1 c l → x.length ≤ l.length := by
  intro l
  induction l with
  | nil => intro x hx; simp [split1] at hx; simp [hx]
  | cons a l ih =>
    intro x hx
    unfold split1 at hx
    split at hx
    · rcases List.mem_cons.1 hx with rfl | hx
      · simp
      · have := ih hx; simp; omega
    · split at hx
      · next e => exact absurd e (split1_ne c l)
      · next h t e =>
        rcases List.mem_cons.1 hx with rfl | hx
        · have := ih (x := h) (by rw [e]; exact List.mem_cons_self ..)
          simp; omega
        · have := ih (x := x) (by rw [e]; exact List.mem_cons_of_mem _ hx)
          simp; omega
theorem num1_bound {base B B' n : Nat} {l : List UInt8} (h : num1 base B l = some n) (hB : B' ≤ B) : num1 base B' l = if n < B' then some n else none := by
  unfold num1 at h ⊢
  split at h
  · cases h
  · next hl =>
    rw [if_neg hl]
    cases e : pval (dval base) base 0 l with
    | none => rw [e] at h; cases h
    | some m =>
      rw [e] at h
      simp only [Option.bind_some] at h ⊢
      split at h
      · cases h; rfl
      · cases h
theorem num1_none_of {base B B' : Nat} {l : List UInt8} (h : num1 base B l = none) (hB : B' ≤ B) : num1 base B' l = none := by
  cases e : num1 base B' l with
  | none => rfl
  | some n =>
    have hlt := num1_lt e
    unfold num1 at h e
    split at e
    · cases e
    · next hl =>
      rw [if_neg hl] at h
      cases e2 : pval (dval base) base 0 l with
      | none => rw [e2] at e; cases e
      | some m =>
        rw [e2] at e h
        simp only [Option.bind_some] at e h
        split at e
        · cases e
          rw [if_pos (by omega)] at h
          cases h
        · cases e

/- What numbers answers. -/
def NumGot (Lo : Option (List Nat)) (W : World) (r : Ending) (w' : World) : Prop := (match Lo with
  | none => r = .returned (.tuple #[.slice none 0 0, .bool false])
  | some L => ∃ v : Value, r = .returned (.tuple #[v, .bool true]) ∧ w'.ownsRow W.heap.size 38 1 v L.length (cellsU L)) ∧ Below W.heap.size W w'
theorem NumGot.bad {W w' : World} {Lo : Option (List Nat)} (h : Lo = none) (hb : Below W.heap.size W w') : NumGot Lo W (.returned (.tuple #[.slice none 0 0, .bool false])) w' := by rw [h]; exact ⟨rfl, hb⟩
theorem NumGot.good {W w' : World} {Lo : Option (List Nat)} {L : List Nat} {v : Value} (h : Lo = some L) (ho : w'.ownsRow W.heap.size 38 1 v L.length (cellsU L)) (hb : Below W.heap.size W w') : NumGot Lo W (.returned (.tuple #[v, .bool true])) w' := by rw [h]; exact ⟨⟨v, rfl, ho⟩, hb⟩

set_option maxHeartbeats 4000000 in
set_option maxRecDepth 100000 in
theorem numbers_any {w : World} (env : Env w) (s : ByteArray) (hs : s.size ≤ 2000000) (c : UInt8) (base most : Nat) (hmost : most < 18446744073709551616) (hbase : base ≤ 16)
    (hpu : ∀ v, Env v → ∀ t : ByteArray, t.size ≤ 4000000 → Calls Tryz.prog 177 #[.string t, .int .i64 (base : Int), .int .i64 64] v (PuGot base 18446744073709551616 t.data.toList v)) :
    Calls Tryz.prog 187 #[.string s, .string ⟨#[c]⟩, .int .i64 (base : Int), .int .u64 (most : Int)] w (NumGot (numbersL c base (most + 1) s.data.toList) w) := by
  obtain ⟨i0, hi, hz0, hz1, hz2⟩ := info_parts info_u64
  have Henv := Lib.hid env
  have Hpu := Lib.hid hpu
  clear hpu
  by_cases hne : s.size = 0
  · have he : s = ⟨#[]⟩ := by
      apply ByteArray.ext
      exact Array.eq_empty_of_size_eq_zero hne
    rw [he]
    have hL : numbersL c base (most + 1) (⟨#[]⟩ : ByteArray).data.toList = some [] := rfl
    rw [hL]
    clear env hne hmost
    go_enter Tryz.func187, Tryz.ntmps187
    go_wp2_with fail
    go_ret2
    exact NumGot.good (v := .slice none 0 0) rfl (World.ownsRow_nil _ _ _ _) (Below.refl _ _)
  have hemp : s.toList.isEmpty = false := by
    rw [← decide_eq_emptyBytes]
    exact decide_eq_false (fun h => hne (by rw [h]; rfl))
  have hsl : s.data.toList.length = s.size := (Lib.size_eq s).symm
  have hnl : s.data.toList ≠ [] := fun e => hne (by rw [← hsl, e]; rfl)
  have hnum : numbersL c base (most + 1) s.data.toList = gather base (most + 1) (split1 c s.data.toList) [] := by unfold numbersL; rw [if_neg hnl]
  rw [hnum]
  have hsp := splitB_one s ⟨#[c]⟩ c rfl
  have hpl : ∀ t ∈ split1 c s.data.toList, t.length ≤ s.size := fun t ht => by have := split1_size ht; omega
  obtain ⟨m, hm⟩ := env.mx
  have HS := Lib.hid (Tryz.strings_Split s ⟨#[c]⟩ m w (by omega) hm (show 1 ≤ 1 from Nat.le_refl _))
  clear hm env hnum hnl hne
  generalize hP : Lib.splitB ⟨#[c]⟩ 0 (Lib.countB s ⟨#[c]⟩) s = P at hsp HS
  have hcount : Lib.countB s ⟨#[c]⟩ + 1 = P.length := by
    have := Lib.splitB_all (⟨#[c]⟩ : ByteArray) (show 1 ≤ 1 from Nat.le_refl _) 0 (Lib.countB s ⟨#[c]⟩) s rfl
    rw [hP] at this
    omega
  rw [hcount] at HS
  have hPl : P.length ≤ s.size + 1 := by
    have := congrArg List.length hsp
    rw [List.length_map] at this
    rw [this]
    have := split1_length c s.data.toList
    omega
  clear hP hcount hsl
  have hPat : ∀ k (hk : k < P.length), (split1 c s.data.toList).drop k = (P[k]'hk).data.toList :: (split1 c s.data.toList).drop (k + 1) ∧ (P[k]'hk).size ≤ 2000000 := by
    intro k hk
    have hkQ : k < (split1 c s.data.toList).length := by rw [← hsp, List.length_map]; exact hk
    have e : (split1 c s.data.toList)[k]'hkQ = (P[k]'hk).data.toList := by
      have : (P.map (·.data.toList))[k]'(by rw [List.length_map]; exact hk) = (P[k]'hk).data.toList := by simp
      rw [← this]
      congr 1
      exact hsp.symm
    refine ⟨by rw [List.drop_eq_getElem_cons hkQ, e], ?_⟩
    have h := hpl _ (List.getElem_mem hkQ)
    rw [e, ← Lib.size_eq] at h
    omega
  have hQl : (split1 c s.data.toList).length = P.length := by rw [← hsp, List.length_map]
  generalize split1 c s.data.toList = Q at hPat hQl ⊢
  have HPat := Lib.hid hPat
  have HQl := Lib.hid hQl
  have HPl := Lib.hid hPl
  clear hsp hpl hPat hQl hPl
  obtain ⟨N, hN⟩ : ∃ n, n = P.length := ⟨_, rfl⟩
  rw [← hN] at HS HPl HQl
  have hNs : N ≤ 2000001 := by have := HPl.out; omega
  have HN := Lib.hid hN
  clear hN
  obtain ⟨GR, hGR⟩ : ∃ g, g = gather base (most + 1) Q [] := ⟨_, rfl⟩
  rw [← hGR]
  have HGR := Lib.hid hGR
  clear hGR
  go_enter Tryz.func187, Tryz.ntmps187
  go_wp2_with (go_at_call 193; (with_reducible refine HS.out.mono ?_); rintro r w1 ⟨rfl, rfl⟩)
  have hrow : Blk (w.alloc (.cells (P.map Value.string).toArray 9)) w.heap.size 9 (P.map Value.string).toArray := Blk.new _ _ _
  have hb0 := boxed w (.cells (P.map Value.string).toArray 9)
  generalize w.alloc (.cells (P.map Value.string).toArray 9) = W0 at hrow hb0 ⊢
  have Hrow := Lib.hid hrow
  have Hb0 := Lib.hid hb0
  clear hrow hb0
  go_loopw [10, 21] (fun v10 v21 wr => ∃ (k : Nat) (acc : List Nat) (A : Option Addr) (cap : Nat), k ≤ N ∧ v21 = .int .i64 (k : Int) ∧ v10 = .slice A acc.length cap ∧ acc.length ≤ 9 ∧ RowKit.Hid (wr.ownsRow W0.heap.size 38 1 (.slice A acc.length cap) acc.length (cellsU acc)) ∧ RowKit.Hid (Below W0.heap.size W0 wr) ∧ RowKit.Hid (GR = gather base (most + 1) (Q.drop k) acc)) (fun _ v21 _ => N - (intOf v21).toNat)
  case atStart => exact ⟨0, [], none, 0, Nat.zero_le _, rfl, rfl, by simp, Lib.hid (World.ownsRow_nil _ _ _ _), Lib.hid (Below.refl _ _), HGR⟩
  case round =>
    obtain ⟨k, acc, A, cap, hk, rfl, rfl, hal, hown, hb, hg⟩ := hrel
    by_cases hlt : k < N
    · have hkP : k < P.length := by have := HN.out; omega
      have hp := HPat.out k hkP
      have cx := (hb.out.cell (p := ⟨w.heap.size, k, none⟩) Hrow.out.lt).trans (Hrow.out.cell k)
      rw [List.getElem?_toArray, List.getElem?_map, List.getElem?_eq_getElem hkP] at cx
      simp only [Option.map_some] at cx
      generalize P[k]'hkP = T at hp cx
      have hg2 := hg.out
      rw [hp.1] at hg2
      have HF := Lib.hid (Hpu.out wr ((Henv.out.below Hb0.out).below hb.out) T (by have := hp.2; omega))
      generalize T.data.toList = t at hp hg2 HF
      have Hg2 := Lib.hid hg2
      clear hp hg2 hg
      go_wp2_with fail
      go_at_call 177
      refine HF.out.mono ?_
      rintro e w2 ⟨⟨n, hn, rfl⟩ | ⟨hn, n, tp, p, hn64, rfl⟩, hb2⟩
      · have hb3 := Lib.hid (after hb.out hb2)
        have hsz3 : w.heap.size ≤ w2.heap.size := Nat.le_trans Hb0.out.size hb3.out.size
        have ho3 := Lib.hid (own_below hown.out hb2)
        have hb1 := num1_bound hn (B' := most + 1) (by omega)
        have hn64 := num1_lt hn
        clear hn hb2 cx
        by_cases hnm : most < n
        · have hGR : GR = none := by
            rw [Hg2.out]
            unfold gather
            rw [hb1, if_neg (by omega)]
          have HGR2 := Lib.hid hGR
          have hq : (most : Int) < (n : Int) := by omega
          clear hGR hb1
          go_wp2_with fail
          go_ret2
          exact NumGot.bad HGR2.out (after Hb0.out hb3.out)
        · have hq : ¬ (most : Int) < (n : Int) := by omega
          rw [if_pos (by omega)] at hb1
          by_cases h8 : 8 < acc.length
          · have hGR : GR = none := by
              rw [Hg2.out]
              unfold gather
              rw [hb1]
              simp only
              rw [if_pos h8]
            have HGR2 := Lib.hid hGR
            clear hGR hb1
            go_wp2_with fail
            go_ret2
            exact NumGot.bad HGR2.out (after Hb0.out hb3.out)
          · have hGR : GR = gather base (most + 1) (Q.drop (k + 1)) (acc ++ [n]) := by
              rw [Hg2.out]
              conv => lhs; unfold gather
              rw [hb1]
              simp only
              rw [if_neg h8]
            have HGR2 := Lib.hid hGR
            clear hGR hb1
            go_wp2_with (at_builtin; refine wpList_append_own _ rfl _ _ 252 rfl W0.heap.size 38 i0 (.int .u64 0) 1 8 Tryz.underlying252 hi hz0 hz1 hz2 rfl (by decide) _ acc.length _ rfl (ho3.out.alloc _) ⟨w2.heap.size, 0, none⟩ 1 1 [.int .u64 (n : Int)] rfl rfl (cell_one_new _ _ _) (fun x hx => by simp at hx; subst hx; rfl) (by unfold maxLen; omega) (by omega) (by have := hb3.out.size; simp; omega) ?_; intro v' w3 hown' hgrow3 hnil3; have Ho4 := Lib.hid hown'; have hbW := Lib.hid ((hb3.out.alloc (hb3.out.size) _).grown hgrow3 (by have := hb3.out.size; simp; omega) (fun q hq => (ho3.out.lt q hq).1)); clear hown' hgrow3 hnil3)
            obtain ⟨A', cap', rfl⟩ := own_shape Ho4.out
            go_roundw
            case rel => exact ⟨k + 1, acc ++ [n], A', cap', by omega, by go_num, by rw [List.length_append]; rfl, by rw [List.length_append, List.length_singleton]; omega, Lib.hid (by rw [cellsU_snoc, List.length_append]; exact Ho4.out), hbW, HGR2⟩
            case measure => simp [intOf]; omega
      · have hb3 := Lib.hid (after hb.out hb2)
        have hb1 := num1_none_of hn (B' := most + 1) (by omega)
        have hGR : GR = none := by
          rw [Hg2.out]
          unfold gather
          rw [hb1]
        have HGR2 := Lib.hid hGR
        clear hGR hb1 hn hb2 cx
        go_wp2_with fail
        go_ret2
        exact NumGot.bad HGR2.out (after Hb0.out hb3.out)
    · obtain rfl : k = N := by omega
      have hend : GR = some acc := by
        rw [hg.out, List.drop_of_length_le (by have := HQl.out; omega)]
        rfl
      have Hend := Lib.hid hend
      clear hend hg
      go_wp2_with fail
      go_ret2
      exact NumGot.good (v := .slice A acc.length cap) Hend.out (hown.out.mono Hb0.out.size) (after Hb0.out hb.out)
end Go.Proofs.YthglckoikjfjkaaGreatDoor

/- A line's words: the walk. -/
namespace Go.Proofs.YthglckoikjfjkaaGreatDoor
open Go.RowKit
attribute [local go_sem ↓] Go.wp_at_zero Go.wp_at_succ

theorem cells_new (w : World) (xs : List Value) (t : TypeId) : ∀ j u, xs[j]? = some u → (w.alloc (.cells xs.toArray t)).cell? ((⟨w.heap.size, 0, none⟩ : Addr).add j) = some u := by
  intro j u h
  have := (Blk.new w t xs.toArray).cell j
  rw [List.getElem?_toArray, h] at this
  rw [← this]
  congr 1
  simp [Addr.add]
  exact fun h => h.symm
end Go.Proofs.YthglckoikjfjkaaGreatDoor

/- The reader of a line: how it gives up, and its next word: the walks. -/
namespace Go.Proofs.YthglckoikjfjkaaGreatDoor
open Go.RowKit
attribute [local go_sem ↓] Go.wp_at_zero Go.wp_at_succ

theorem own_keep {w w' : World} {base size n : Nat} {e : TypeId} {v : Value} {xs : List Value} {S : Nat → Prop} (h : w.ownsRow base e size v n xs) (hk : Keeps S w w') (hS : ∀ g, v.ownBlock = some g → ¬ S g) : w'.ownsRow base e size v n xs := by
  refine ⟨h.1, ?_⟩
  rcases h.2 with h2 | ⟨g, cap, cur, e1, hb, hg, rest⟩
  · exact .inl h2
  · subst e1
    exact .inr ⟨g, cap, cur, rfl, hb, (hk.block g (Array.getElem?_eq_some_iff.1 hg).1 (hS g rfl)).trans hg, rest⟩
end Go.Proofs.YthglckoikjfjkaaGreatDoor

/- Is a name told? (has, hasHost): the walks. -/
namespace Go.Proofs.YthglckoikjfjkaaGreatDoor
open Go.RowKit
attribute [local go_sem ↓] Go.wp_at_zero Go.wp_at_succ

/- A row as it is read: cell by cell. -/
def RowR (w : World) (v : Value) (n size : Nat) (xs : List Value) : Prop := ∃ A cap, v = .slice A n cap ∧ xs.length = n * size ∧ (0 < n → ∃ g o, A = some ⟨g, o, none⟩ ∧ ∀ j u, xs[j]? = some u → w.cell? ⟨g, o + j, none⟩ = some u)
theorem RowR.of_own {w : World} {base size n : Nat} {e : TypeId} {v : Value} {xs : List Value} (h : w.ownsRow base e size v n xs) : RowR w v n size xs := by
  rcases h.2 with ⟨e1, e2⟩ | ⟨g, cap, cur, e1, hb, hg, rest⟩
  · subst e1 e2
    exact ⟨none, 0, rfl, h.1, fun h => absurd h (by decide)⟩
  · subst e1
    refine ⟨_, cap, rfl, h.1, fun _ => ⟨g, 0, rfl, fun j u hu => ?_⟩⟩
    have hj : j < n * size := by rw [← h.1]; exact (List.getElem?_eq_some_iff.1 hu).1
    rw [Nat.zero_add, h.cellAt j hj]
    exact hu
theorem RowR.below {w w' : World} {v : Value} {n size : Nat} {xs : List Value} (h : RowR w v n size xs) (hb : Below w.heap.size w w') : RowR w' v n size xs := by
  obtain ⟨A, cap, h1, h2, h3⟩ := h
  refine ⟨A, cap, h1, h2, fun hn => ?_⟩
  obtain ⟨g, o, ha, hc⟩ := h3 hn
  exact ⟨g, o, ha, fun j u hu => (hb.cell (World.block_lt_of_cell? w _ (hc j u hu))).trans (hc j u hu)⟩
/- A row of groups as its names tell it; lv: where each one's names lie. -/
def nmCells (l : List (ByteArray × Value)) : List Value := l.flatMap fun x => [Value.string x.1, x.2]
theorem nmCells_at : ∀ (l : List (ByteArray × Value)) (k : Nat) (x : ByteArray × Value), l[k]? = some x → (nmCells l)[k * 2]? = some (.string x.1) ∧ (nmCells l)[k * 2 + 1]? = some x.2 := by
  intro l
  induction l with
  | nil => intro k x h; cases h
  | cons y r ih =>
    intro k x h
    cases k with
    | zero => injection h with h; subst h; exact ⟨rfl, rfl⟩
    | succ k =>
      obtain ⟨h1, h2⟩ := ih k x h
      rw [show (k + 1) * 2 = k * 2 + 1 + 1 by omega]
      exact ⟨h1, h2⟩

set_option maxHeartbeats 2000000 in
set_option maxRecDepth 100000 in
theorem has1_any {w : World} (g : Nat) (s x : ByteArray) (v : Value) (hg : w.cell? ⟨g, 0, none⟩ = some (.string s)) : Calls Tryz.prog 179 #[.agg #[.string x, v], .pointer (some ⟨g, 0, none⟩)] w (Got (.bool (decide (x = s))) w) := by
  have hx := Blk.new w 56 #[.string x, v]
  have hb := boxed w (.cells #[.string x, v] 56)
  have hg2 := (hb.cell (p := ⟨g, 0, none⟩) (World.block_lt_of_cell? w _ hg)).trans hg
  have x0 := hx.cell 0
  simp at x0
  have hd : (x.toList == s.toList) = decide (x = s) := by
    by_cases e : x = s
    · subst e; simp
    · rw [decide_eq_false e, beq_eq_false_iff_ne]
      intro h
      rw [ByteArray.toList_eq, ByteArray.toList_eq] at h
      exact e (ByteArray.ext (Array.ext' h))
  obtain ⟨D, hD⟩ : ∃ D, D = decide (x = s) := ⟨_, rfl⟩
  rw [← hD] at hd ⊢
  clear hD hx
  go_enter Tryz.func179, Tryz.ntmps179
  go_wp2_with fail
  go_ret
  exact ⟨rfl, hb⟩

def IxGot (b : Bool) (w : World) (r : Ending) (w' : World) : Prop := (∃ i : Int, r = .returned (.int .i64 i) ∧ decide (0 ≤ i) = b) ∧ Below w.heap.size w w'

set_option maxHeartbeats 4000000 in
set_option maxRecDepth 100000 in
theorem indexN_any {w : World} (l : List (ByteArray × Value)) (hl : l.length ≤ 4000000) (lv : Value) (hr : RowR w lv l.length 2 (nmCells l)) (g : Nat) (s : ByteArray) (hg : w.cell? ⟨g, 0, none⟩ = some (.string s)) :
    Calls Tryz.prog 78 #[lv, .func (.func 179) #[] #[.pointer (some ⟨g, 0, none⟩)]] w (IxGot (l.any fun x => decide (x.1 = s)) w) := by
  obtain ⟨A, cap, rfl, hlen, hA⟩ := hr
  obtain ⟨N, hN⟩ : ∃ n, n = l.length := ⟨_, rfl⟩
  obtain ⟨R, hR⟩ : ∃ r, r = l.any fun x => decide (x.1 = s) := ⟨_, rfl⟩
  rw [← hN] at hA hl ⊢
  rw [← hR]
  have HA := Lib.hid hA
  have HN := Lib.hid hN
  have HR := Lib.hid hR
  have Hg := Lib.hid hg
  clear hA hN hlen hR hg
  go_enter Tryz.func78, Tryz.ntmps78
  go_wp2_with fail
  go_loopw [8] (fun v8 wr => ∃ k : Nat, k ≤ N ∧ v8 = .int .i64 (k : Int) ∧ RowKit.Hid (Below w.heap.size w wr) ∧ RowKit.Hid (((l.take k).any fun x => decide (x.1 = s)) = false)) (fun v8 _ => N - (intOf v8).toNat)
  case atStart => exact ⟨0, Nat.zero_le _, rfl, Lib.hid (Below.refl _ _), Lib.hid rfl⟩
  case round =>
    obtain ⟨k, hk, rfl, hb, hno⟩ := hrel
    by_cases hlt : k < N
    · have hkl : k < l.length := by have := HN.out; omega
      obtain ⟨q, o, rfl, hc⟩ := HA.out (by omega)
      have htk := List.take_succ_eq_append_getElem hkl
      have hx : l[k]? = some l[k] := List.getElem?_eq_getElem hkl
      have hcell := nmCells_at l k _ hx
      have c0 := hc _ _ hcell.1
      have c1 := hc _ _ hcell.2
      generalize l[k] = X at htk c0 c1
      have d0 := (hb.out.cell (World.block_lt_of_cell? w _ c0)).trans c0
      have d1 := (hb.out.cell (World.block_lt_of_cell? w _ c1)).trans c1
      rw [← Nat.add_assoc] at d1
      have hgw := (hb.out.cell (World.block_lt_of_cell? w _ Hg.out)).trans Hg.out
      have HF := Lib.hid (has1_any (w := wr) g s X.1 X.2 hgw)
      obtain ⟨X1, X2⟩ := X
      simp only at d0 d1 HF
      clear c0 c1 hx hcell hgw hc
      by_cases he : X1 = s
      · have hres : R = true := by
          rw [HR.out]
          have : (l.take (k + 1)).any (fun x => decide (x.1 = s)) = true := by rw [htk, List.any_append]; simp [he]
          obtain ⟨y, hy, hys⟩ := List.any_eq_true.1 this
          exact List.any_eq_true.2 ⟨y, List.mem_of_mem_take hy, hys⟩
        have Hres := Lib.hid hres
        rw [decide_eq_true he] at HF
        clear hres htk he
        go_wp2_with (go_at_call 179; (with_reducible refine HF.out.mono ?_); rintro r w2 ⟨rfl, e2⟩)
        go_ret
        exact ⟨⟨_, rfl, by rw [Hres.out]; exact decide_eq_true (by omega)⟩, after hb.out e2⟩
      · have hno2 : ((l.take (k + 1)).any fun x => decide (x.1 = s)) = false := by rw [htk, List.any_append, hno.out]; simp [he]
        have Hno2 := Lib.hid hno2
        rw [decide_eq_false he] at HF
        clear hno2 htk he
        go_wp2_with (go_at_call 179; (with_reducible refine HF.out.mono ?_); rintro r w2 ⟨rfl, e2⟩)
        go_roundw
        case rel => exact ⟨k + 1, by omega, by go_num, Lib.hid (after hb.out e2), Hno2⟩
        case measure => simp [intOf]; omega
    · obtain rfl : k = N := by omega
      have hres : R = false := by
        have := hno.out
        rw [List.take_of_length_le (by have := HN.out; omega)] at this
        rw [HR.out]
        exact this
      have Hres := Lib.hid hres
      clear hres
      go_wp2_with fail
      go_ret
      exact ⟨⟨_, rfl, by rw [Hres.out]; rfl⟩, hb.out⟩

set_option maxHeartbeats 4000000 in
set_option maxRecDepth 100000 in
theorem containsN_any {w : World} (l : List (ByteArray × Value)) (hl : l.length ≤ 4000000) (lv : Value) (hr : RowR w lv l.length 2 (nmCells l)) (g : Nat) (s : ByteArray) (hg : w.cell? ⟨g, 0, none⟩ = some (.string s)) :
    Calls Tryz.prog 178 #[lv, .func (.func 179) #[] #[.pointer (some ⟨g, 0, none⟩)]] w (Got (.bool (l.any fun x => decide (x.1 = s))) w) := by
  have HI := Lib.hid (indexN_any l hl lv hr g s hg)
  generalize (l.any fun x => decide (x.1 = s)) = R at HI ⊢
  clear hg hr
  go_enter Tryz.func178, Tryz.ntmps178
  go_wp2_with (go_at_call 78; (with_reducible refine HI.out.mono ?_); rintro r w2 ⟨⟨i, rfl, hi⟩, e2⟩)
  refine bodyPost_ret (results_tmp rfl _ _ _) rfl ⟨?_, e2⟩
  rw [← hi]
  rfl

set_option maxHeartbeats 4000000 in
set_option maxRecDepth 100000 in
theorem has_any {w : World} (l : List (ByteArray × Value)) (hl : l.length ≤ 4000000) (lv : Value) (hr : RowR w lv l.length 2 (nmCells l)) (s : ByteArray) :
    Calls Tryz.prog 166 #[lv, .string s] w (Got (.bool (l.any fun x => decide (x.1 = s))) w) := by
  have hb0 := boxed w (.cells #[.string s] 9)
  have hg : (w.alloc (.cells #[.string s] 9)).cell? ⟨w.heap.size, 0, none⟩ = some (.string s) := (Blk.new w 9 #[.string s]).cell 0
  have HI := Lib.hid (containsN_any l hl lv (hr.below hb0) w.heap.size s hg)
  generalize (l.any fun x => decide (x.1 = s)) = R at HI ⊢
  have hmf : ∀ (fn : Fn) (first cap : Array Value) (w : World), (Instr.makeFunc fn first cap).run Tryz.prog w = .ok (.func fn first cap) w := fun _ _ _ _ => rfl
  clear hg hr
  go_enter Tryz.func166, Tryz.ntmps166
  go_wp2_with (go_at_call 178; (with_reducible refine HI.out.mono ?_); rintro r w2 ⟨rfl, e2⟩)
  go_ret
  exact ⟨rfl, after hb0 e2⟩
end Go.Proofs.YthglckoikjfjkaaGreatDoor

/- Is a host told? (Printed by pl_hosts.py.) -/
namespace Go.Proofs.YthglckoikjfjkaaGreatDoor
open Go.RowKit
attribute [local go_sem ↓] Go.wp_at_zero Go.wp_at_succ

/- A row of hosts. -/
def hsCells (l : List Hs) : List Value := l.flatMap fun x => [Value.string x.name, .bool x.net.a.v6, .int .u64 (x.net.a.hi : Int), .int .u64 (x.net.a.lo : Int), .int .u8 (x.net.bits : Int)]
theorem hsCells_at : ∀ (l : List Hs) (k : Nat) (x : Hs), l[k]? = some x → (hsCells l)[k * 5]? = some (.string x.name) ∧ (hsCells l)[k * 5 + 1]? = some (.bool x.net.a.v6) ∧ (hsCells l)[k * 5 + 2]? = some (.int .u64 (x.net.a.hi : Int)) ∧ (hsCells l)[k * 5 + 3]? = some (.int .u64 (x.net.a.lo : Int)) ∧ (hsCells l)[k * 5 + 4]? = some (.int .u8 (x.net.bits : Int)) := by
  intro l
  induction l with
  | nil => intro k x h; cases h
  | cons y r ih =>
    intro k x h
    cases k with
    | zero => injection h with h; subst h; exact ⟨rfl, rfl, rfl, rfl, rfl⟩
    | succ k =>
      rw [show (k + 1) * 5 = k * 5 + 1 + 1 + 1 + 1 + 1 by omega]
      exact ih k x h

set_option maxHeartbeats 2000000 in
set_option maxRecDepth 100000 in
theorem hasH1_any {w : World} (g : Nat) (s x : ByteArray) (v1 : Bool) (v2 v3 v4 : Int) (hg : w.cell? ⟨g, 0, none⟩ = some (.string s)) : Calls Tryz.prog 181 #[.agg #[.string x, .bool v1, .int .u64 v2, .int .u64 v3, .int .u8 v4], .pointer (some ⟨g, 0, none⟩)] w (Got (.bool (decide (x = s))) w) := by
  have hx := Blk.new w 127 #[.string x, .bool v1, .int .u64 v2, .int .u64 v3, .int .u8 v4]
  have hb := boxed w (.cells #[.string x, .bool v1, .int .u64 v2, .int .u64 v3, .int .u8 v4] 127)
  have hg2 := (hb.cell (p := ⟨g, 0, none⟩) (World.block_lt_of_cell? w _ hg)).trans hg
  have x0 := hx.cell 0
  simp at x0
  have hd : (x.toList == s.toList) = decide (x = s) := by
    by_cases e : x = s
    · subst e; simp
    · rw [decide_eq_false e, beq_eq_false_iff_ne]
      intro h
      rw [ByteArray.toList_eq, ByteArray.toList_eq] at h
      exact e (ByteArray.ext (Array.ext' h))
  obtain ⟨D, hD⟩ : ∃ D, D = decide (x = s) := ⟨_, rfl⟩
  rw [← hD] at hd ⊢
  clear hD hx
  go_enter Tryz.func181, Tryz.ntmps181
  go_wp2_with fail
  go_ret
  exact ⟨rfl, hb⟩

set_option maxHeartbeats 4000000 in
set_option maxRecDepth 100000 in
theorem indexH_any {w : World} (l : List Hs) (hl : l.length ≤ 4000000) (lv : Value) (hr : RowR w lv l.length 5 (hsCells l)) (g : Nat) (s : ByteArray) (hg : w.cell? ⟨g, 0, none⟩ = some (.string s)) :
    Calls Tryz.prog 73 #[lv, .func (.func 181) #[] #[.pointer (some ⟨g, 0, none⟩)]] w (IxGot (l.any fun x => decide (x.name = s)) w) := by
  obtain ⟨A, cap, rfl, hlen, hA⟩ := hr
  obtain ⟨N, hN⟩ : ∃ n, n = l.length := ⟨_, rfl⟩
  obtain ⟨R, hR⟩ : ∃ r, r = l.any fun x => decide (x.name = s) := ⟨_, rfl⟩
  rw [← hN] at hA hl ⊢
  rw [← hR]
  have HA := Lib.hid hA
  have HN := Lib.hid hN
  have HR := Lib.hid hR
  have Hg := Lib.hid hg
  clear hA hN hlen hR hg
  go_enter Tryz.func73, Tryz.ntmps73
  go_wp2_with fail
  go_loopw [8] (fun v8 wr => ∃ k : Nat, k ≤ N ∧ v8 = .int .i64 (k : Int) ∧ RowKit.Hid (Below w.heap.size w wr) ∧ RowKit.Hid (((l.take k).any fun x => decide (x.name = s)) = false)) (fun v8 _ => N - (intOf v8).toNat)
  case atStart => exact ⟨0, Nat.zero_le _, rfl, Lib.hid (Below.refl _ _), Lib.hid rfl⟩
  case round =>
    obtain ⟨k, hk, rfl, hb, hno⟩ := hrel
    by_cases hlt : k < N
    · have hkl : k < l.length := by have := HN.out; omega
      obtain ⟨q, o, rfl, hc⟩ := HA.out (by omega)
      have htk := List.take_succ_eq_append_getElem hkl
      have hx : l[k]? = some l[k] := List.getElem?_eq_getElem hkl
      have hcell := hsCells_at l k _ hx
      have c0 := hc _ _ hcell.1
      have c1 := hc _ _ hcell.2.1
      have c2 := hc _ _ hcell.2.2.1
      have c3 := hc _ _ hcell.2.2.2.1
      have c4 := hc _ _ hcell.2.2.2.2
      generalize l[k] = X at htk c0 c1 c2 c3 c4
      have d0 := (hb.out.cell (World.block_lt_of_cell? w _ c0)).trans c0
      have d1 := (hb.out.cell (World.block_lt_of_cell? w _ c1)).trans c1
      have d2 := (hb.out.cell (World.block_lt_of_cell? w _ c2)).trans c2
      have d3 := (hb.out.cell (World.block_lt_of_cell? w _ c3)).trans c3
      have d4 := (hb.out.cell (World.block_lt_of_cell? w _ c4)).trans c4
      rw [← Nat.add_assoc] at d1 d2 d3 d4
      have hgw := (hb.out.cell (World.block_lt_of_cell? w _ Hg.out)).trans Hg.out
      have HF := Lib.hid (hasH1_any (w := wr) g s X.name X.net.a.v6 X.net.a.hi X.net.a.lo X.net.bits hgw)
      obtain ⟨X1, ⟨⟨X2, X3, X4⟩, X5⟩⟩ := X
      simp only at d0 d1 d2 d3 d4 HF
      clear c0 c1 c2 c3 c4 hx hcell hgw hc
      by_cases he : X1 = s
      · have hres : R = true := by
          rw [HR.out]
          have : (l.take (k + 1)).any (fun x => decide (x.name = s)) = true := by rw [htk, List.any_append]; simp [he]
          obtain ⟨y, hy, hys⟩ := List.any_eq_true.1 this
          exact List.any_eq_true.2 ⟨y, List.mem_of_mem_take hy, hys⟩
        have Hres := Lib.hid hres
        rw [decide_eq_true he] at HF
        clear hres htk he
        go_wp2_with (go_at_call 181; (with_reducible refine HF.out.mono ?_); rintro r w2 ⟨rfl, e2⟩)
        go_ret
        exact ⟨⟨_, rfl, by rw [Hres.out]; exact decide_eq_true (by omega)⟩, after hb.out e2⟩
      · have hno2 : ((l.take (k + 1)).any fun x => decide (x.name = s)) = false := by rw [htk, List.any_append, hno.out]; simp [he]
        have Hno2 := Lib.hid hno2
        rw [decide_eq_false he] at HF
        clear hno2 htk he
        go_wp2_with (go_at_call 181; (with_reducible refine HF.out.mono ?_); rintro r w2 ⟨rfl, e2⟩)
        go_roundw
        case rel => exact ⟨k + 1, by omega, by go_num, Lib.hid (after hb.out e2), Hno2⟩
        case measure => simp [intOf]; omega
    · obtain rfl : k = N := by omega
      have hres : R = false := by
        have := hno.out
        rw [List.take_of_length_le (by have := HN.out; omega)] at this
        rw [HR.out]
        exact this
      have Hres := Lib.hid hres
      clear hres
      go_wp2_with fail
      go_ret
      exact ⟨⟨_, rfl, by rw [Hres.out]; rfl⟩, hb.out⟩

set_option maxHeartbeats 4000000 in
set_option maxRecDepth 100000 in
theorem containsH_any {w : World} (l : List Hs) (hl : l.length ≤ 4000000) (lv : Value) (hr : RowR w lv l.length 5 (hsCells l)) (g : Nat) (s : ByteArray) (hg : w.cell? ⟨g, 0, none⟩ = some (.string s)) :
    Calls Tryz.prog 180 #[lv, .func (.func 181) #[] #[.pointer (some ⟨g, 0, none⟩)]] w (Got (.bool (l.any fun x => decide (x.name = s))) w) := by
  have HI := Lib.hid (indexH_any l hl lv hr g s hg)
  generalize (l.any fun x => decide (x.name = s)) = R at HI ⊢
  clear hg hr
  go_enter Tryz.func180, Tryz.ntmps180
  go_wp2_with (go_at_call 73; (with_reducible refine HI.out.mono ?_); rintro r w2 ⟨⟨i, rfl, hi⟩, e2⟩)
  refine bodyPost_ret (results_tmp rfl _ _ _) rfl ⟨?_, e2⟩
  rw [← hi]
  rfl

set_option maxHeartbeats 4000000 in
set_option maxRecDepth 100000 in
theorem hasHost_any {w : World} (l : List Hs) (hl : l.length ≤ 4000000) (lv : Value) (hr : RowR w lv l.length 5 (hsCells l)) (s : ByteArray) :
    Calls Tryz.prog 167 #[lv, .string s] w (Got (.bool (l.any fun x => decide (x.name = s))) w) := by
  have hb0 := boxed w (.cells #[.string s] 9)
  have hg : (w.alloc (.cells #[.string s] 9)).cell? ⟨w.heap.size, 0, none⟩ = some (.string s) := (Blk.new w 9 #[.string s]).cell 0
  have HI := Lib.hid (containsH_any l hl lv (hr.below hb0) w.heap.size s hg)
  generalize (l.any fun x => decide (x.name = s)) = R at HI ⊢
  have hmf : ∀ (fn : Fn) (first cap : Array Value) (w : World), (Instr.makeFunc fn first cap).run Tryz.prog w = .ok (.func fn first cap) w := fun _ _ _ _ => rfl
  clear hg hr
  go_enter Tryz.func167, Tryz.ntmps167
  go_wp2_with (go_at_call 180; (with_reducible refine HI.out.mono ?_); rintro r w2 ⟨rfl, e2⟩)
  go_ret
  exact ⟨rfl, after hb0 e2⟩
end Go.Proofs.YthglckoikjfjkaaGreatDoor

/- A map with string keys in memory, known whole: its operations as equations of the run. -/
namespace Go.Proofs.YthglckoikjfjkaaGreatDoor
open Go.RowKit
open Go.ChangeMaps (setBlock)

/- An entry: its key, its value, its stamp. -/
structure SE where
  tx : ByteArray
  val : Value
  born : Nat

def SE.entry (x : SE) : MapEntry := { key := .string x.tx, val := x.val, born := x.born }
def ents (L : List SE) : Array MapEntry := (L.map SE.entry).toArray
def MBlk (w : World) (m : Nat) (L : List SE) (clock : Nat) : Prop := w.heap[m]? = some (.map (ents L) clock)

theorem bytes_beq (a b : ByteArray) : (a == b) = true ↔ a = b := by
  rw [beq_toListBytes, beq_iff_eq, ByteArray.toList_eq, ByteArray.toList_eq]
  constructor
  · intro h
    obtain ⟨⟨x⟩⟩ := a
    obtain ⟨⟨y⟩⟩ := b
    simpa using h
  · rintro rfl
    rfl
theorem bytes_beq_comm (a b : ByteArray) : (a == b) = (b == a) := by
  rw [Bool.eq_iff_iff, bytes_beq, bytes_beq]
  exact ⟨Eq.symm, Eq.symm⟩

def at_ (L : List SE) (s : ByteArray) : Option Nat := L.findIdx? fun x => x.tx == s

theorem findNow_ents (s : ByteArray) (L : List SE) : ∀ i, Instr.findNow .string (.string s) (L.map SE.entry) i = some ((at_ L s).map fun j => (i + j, (L.getD j ⟨s, undef, 0⟩).val)) := by
  unfold at_
  induction L with
  | nil => intro i; rfl
  | cons x L ih =>
    intro i
    simp only [List.map_cons, Instr.findNow, SE.entry, Instr.sameNow, List.findIdx?_cons]
    rw [bytes_beq_comm s x.tx]
    cases h : x.tx == s with
    | true => simp [List.getD_cons_zero]
    | false =>
      have := ih (i + 1)
      simp only [this]
      cases L.findIdx? (fun x => x.tx == s) with
      | none => simp
      | some j => simp; omega

section
variable {P : Program} {T K E : TypeId} {w : World} {m clock : Nat} {L : List SE}

theorem MBlk.lt (h : MBlk w m L clock) : m < w.heap.size := by
  rcases Nat.lt_or_ge m w.heap.size with h1 | h1
  · exact h1
  · unfold MBlk at h; rw [Array.getElem?_eq_none h1] at h; cases h

theorem run_getObj_map {es : Array MapEntry} {c : Nat} (h : w.heap[m]? = some (.map es c)) : (getObj m).run P w = .ok (.map es c) w := by simp [getObj, Sem.run, h]
theorem run_setObj_map {es : Array MapEntry} {c : Nat} (h : w.heap[m]? = some (.map es c)) (o' : Obj) : (setObj m o').run P w = .ok () (setBlock w m o') := by simp [setObj, Sem.run, h, setBlock]

theorem run_checkKey_gen (n : Nat) (b : Bool) (s : Value) (hK : P.underlying K = some .string) : (Instr.checkKey b (n + 1) K s).run P w = .ok () w := by
  simp [Instr.checkKey, run_underlying hK]
theorem run_checkKey_string (b : Bool) (s : Value) (hK : P.underlying K = some .string) : (Instr.checkKey b 10000 K s).run P w = .ok () w := run_checkKey_gen 9999 b s hK

theorem run_findKey_sm (s : ByteArray) (hK : P.underlying K = some .string) : (Instr.findKey K (.string s) (L.map SE.entry)).run P w = .ok ((at_ L s).map fun j => (j, (L.getD j ⟨s, undef, 0⟩).val)) w := by
  simp [Instr.findKey, run_underlying hK, findNow_ents s L 0]

theorem run_update_sm (hT : P.underlying T = some (.map K E)) (hK : P.underlying K = some .string) (h : MBlk w m L clock) (s : ByteArray) (hj : at_ L s = none) (v : Value) :
    (Instr.mapUpdate T (.map (some m)) (.string s) v).run P w = .ok () (setBlock w m (.map (ents (L ++ [⟨s, v, clock⟩])) (clock + 1))) := by
  simp [Instr.mapUpdate, run_underlying hT, run_getObj_map h, run_checkKey_string _ _ hK, ents, run_findKey_sm s hK, hj, run_setObj_map h, SE.entry]

theorem Keeps.setBlock {S : Nat → Prop} {a : World} {r : Nat} (h : Keeps S a w) (hr : S r ∨ a.heap.size ≤ r) (o : Obj) : Keeps S a (setBlock w r o) :=
  ⟨h.os, h.tape, h.output, by simpa [Go.ChangeMaps.setBlock] using h.size, fun k hk hs => by
    have : r ≠ k := by rintro rfl; rcases hr with h1 | h1; exact hs h1; omega
    rw [← h.block k hk hs]
    simp [Go.ChangeMaps.setBlock, Array.getElem?_setIfInBounds, this]⟩

theorem MBlk.keep {S : Nat → Prop} {w' : World} (h : MBlk w m L clock) (hk : Keeps S w w') (hg : ¬ S m) : MBlk w' m L clock := (hk.block m h.lt hg).trans h
theorem MBlk.below {B : Nat} {w' : World} (h : MBlk w m L clock) (hb : Below B w w') (hg : m < B) : MBlk w' m L clock := (hb.block m hg).trans h
theorem MBlk.drewN (h : MBlk w m L clock) (n : Nat) : MBlk (w.drewN n) m L clock := h
theorem MBlk.set_ (h : MBlk w m L clock) (L' : List SE) (c' : Nat) : MBlk (setBlock w m (.map (ents L') c')) m L' c' := by
  have := h.lt
  unfold MBlk Go.ChangeMaps.setBlock
  simp [this]

/- A store at a key that is not there, and a delete of one that is: as a new world. -/
theorem update_sm (hT : P.underlying T = some (.map K E)) (hK : P.underlying K = some .string) (h : MBlk w m L clock) (s : ByteArray) (hj : at_ L s = none) (v : Value) :
    ∃ W, (Instr.mapUpdate T (.map (some m)) (.string s) v).run P w = .ok () W ∧ (Instr.mapUpdate T (.map (some m)) (.string s) v).run P w.drew = .ok () W.drew ∧ (∀ n, (Instr.mapUpdate T (.map (some m)) (.string s) v).run P (w.drewN n) = .ok () (W.drewN n)) ∧ Keeps (fun g => g = m) w W ∧ MBlk W m (L ++ [⟨s, v, clock⟩]) (clock + 1) :=
  ⟨setBlock w m (.map (ents (L ++ [(⟨s, v, clock⟩ : SE)])) (clock + 1)), run_update_sm hT hK h s hj v, run_update_sm (w := w.drew) hT hK h s hj v, fun n => run_update_sm hT hK (h.drewN n) s hj v, (Keeps.refl (fun g => g = m) w).setBlock (.inl rfl) _, h.set_ _ _⟩

def Iter (w : World) (r m since : Nat) (seen : Array Nat) (last : Nat) : Prop := w.heap[r]? = some (.mapIter (some m) since seen last)

theorem Iter.lt {r since last : Nat} {seen : Array Nat} (h : Iter w r m since seen last) : r < w.heap.size := by
  rcases Nat.lt_or_ge r w.heap.size with h1 | h1
  · exact h1
  · unfold Iter at h; rw [Array.getElem?_eq_none h1] at h; cases h

end
end Go.Proofs.YthglckoikjfjkaaGreatDoor

/- Texts of addresses, the program's: numbers joined: the walk. -/
namespace Go.Proofs.YthglckoikjfjkaaGreatDoor
open Go.RowKit

def hexs (L : List Nat) : List (List UInt8) := L.map hexL
theorem hexs_take {L : List Nat} {k : Nat} (hk : k < L.length) : hexs (L.take (k + 1)) = hexs (L.take k) ++ [hexL (L.getD k 0)] := by
  unfold hexs
  rw [List.take_succ_eq_append_getElem hk, List.map_append, List.getD_eq_getElem?_getD, List.getElem?_eq_getElem hk]
  rfl
theorem strs_snoc (L : List (List UInt8)) (x : List UInt8) : (strs (L ++ [x])).map Value.string = (strs L).map Value.string ++ [.string ⟨x.toArray⟩] := by
  unfold strs
  simp
theorem joinH_len8 {L : List Nat} (h : ∀ x ∈ L, x < 65536) (hl : L.length ≤ 8) : (joinH L).length ≤ 40 := by
  have := joinH_len L h
  omega

set_option maxHeartbeats 1000000 in
theorem tjoin_any {w : World} (env : Env w) (g o c : Nat) (L : List Nat) (hL : ∀ x ∈ L, x < 65536) (hl : L.length ≤ 8) (hg : g < w.heap.size) (hc : ∀ j, j < L.length → w.cell? ⟨g, o + j, none⟩ = some (.int .u16 (L.getD j 0 : Int))) : Calls Tryz.prog 89 #[.slice (some ⟨g, o, none⟩) L.length c] w (Got (.string ⟨(joinH L).toArray⟩) w) := by
  obtain ⟨i0, hi, hz0, hz1, hz2⟩ := info_parts info_str
  have Henv := Lib.hid env
  have Hc := Lib.hid hc
  have HL := Lib.hid hL
  clear env hc hL
  obtain ⟨n, hn⟩ : ∃ n, n = L.length := ⟨_, rfl⟩
  rw [← hn] at hl ⊢
  have Hn := Lib.hid hn
  clear hn
  go_enter Tryz.func89, Tryz.ntmps89
  go_wp2_with fail
  go_loopw [3, 8] (fun v i wr => ∃ k : Nat, k ≤ n ∧ i = .int .i64 (k : Int) ∧ RowKit.Hid (wr.ownsRow w.heap.size 9 1 v k ((strs (hexs (L.take k))).map Value.string)) ∧ RowKit.Hid (Below w.heap.size w wr)) (fun _ i _ => n - (intOf i).toNat)
  case atStart => exact ⟨0, Nat.zero_le _, rfl, Lib.hid (World.ownsRow_nil _ _ _ _), Lib.hid (Below.refl _ _)⟩
  case round =>
    obtain ⟨k, hk, rfl, hown, hb⟩ := hrel
    by_cases hlt : k < n
    · have hkl : k < L.length := by have := Hn.out; omega
      have cx := (hb.out.cell (p := ⟨g, o + k, none⟩) hg).trans (Hc.out k hkl)
      have hx : L.getD k 0 < 65536 := by
        rw [List.getD_eq_getElem?_getD, List.getElem?_eq_getElem hkl]
        exact HL.out _ (List.getElem_mem hkl)
      have hs := hexs_take hkl
      have hq : (strs (hexs (L.take (k + 1)))).map Value.string = (strs (hexs (L.take k))).map Value.string ++ [.string ⟨(hexL (L.getD k 0)).toArray⟩] := by rw [hs, strs_snoc]
      have Hq := Lib.hid hq
      clear hs hq
      generalize L.getD k 0 = X at cx hx Hq
      have HF := Lib.hid (fmt16 (w := wr) X hx (Henv.out.below hb.out).db)
      go_wp2_with (first
        | (go_at_call 90; (with_reducible refine HF.out.mono ?_); rintro r w2 ⟨rfl, g2⟩; have ho2 := Lib.hid (own_below hown.out g2); have hb2 := Lib.hid (after hb.out g2); clear g2)
        | (at_builtin; refine wpList_append_own _ rfl _ _ 50 rfl w.heap.size 9 i0 (.string ByteArray.empty) 1 16 Tryz.underlying50 hi hz0 hz1 hz2 rfl (by decide) _ k _ rfl (ho2.out.alloc _) ⟨w2.heap.size, 0, none⟩ 1 1 [.string ⟨(hexL X).toArray⟩] rfl rfl (cell_one_new _ _ _) (fun x hx => by simp at hx; subst hx; rfl) (by unfold maxLen; omega) (by omega) (by have := hb2.out.size; simp; omega) ?_; intro v' w3 hown' hgrow3 hnil3; have Ho3 := Lib.hid hown'; have hb3 := Lib.hid ((hb2.out.alloc (hb2.out.size) _).grown hgrow3 (by have := hb2.out.size; simp; omega) (fun q hq => (ho2.out.lt q hq).1)); clear hown' hgrow3 hnil3))
      go_roundw
      case rel => exact ⟨k + 1, by omega, by go_num, Lib.hid (by rw [Hq.out]; exact Ho3.out), hb3⟩
      case measure => simp [intOf]; omega
    · obtain rfl : k = n := by omega
      have hown := hown.out
      rw [show L.take k = L by rw [Hn.out, List.take_length]] at hown
      have hlen : (hexs L).length = k := by rw [Hn.out]; simp [hexs]
      rw [← hlen] at hown
      have HJ := Lib.hid (join_own (w := wr) 58 hown (by omega) (by have := joinH_len8 HL.out (by have := Hn.out; omega); exact Nat.le_trans this (by decide)))
      clear hown hlen
      go_wp2_with (go_at_call 62; (with_reducible refine HJ.out.mono ?_); rintro r w2 ⟨rfl, g2⟩; have hb2 := Lib.hid (after hb.out g2); clear g2)
      go_ret
      exact ⟨rfl, hb2.out⟩
end Go.Proofs.YthglckoikjfjkaaGreatDoor
