/- Drop: the closure, IndexFunc, DeleteFunc. -/
import Derived.Test.YtbopmcdmahabbaaPbD
namespace Go.Proofs.Ytbopmcdmahabbaa
open Go.RowKit

set_option maxHeartbeats 400000 in
theorem dropc_any (p : Pth) (e : End) (eb : Nat) (w : World) (he : Blk w eb 35 e.cells) :
    Calls Try.prog 31 #[.agg p.cells, .pointer (some ⟨eb, 0, none⟩)] w fun r w' => r = .returned (.bool (p.e.eqb e)) ∧ w.alloc (.cells p.cells 53) = w' := by
  have c0 : w.cell? ⟨eb, 0, none⟩ = some (.bool e.v6) := he.cell 0
  have c1 : w.cell? ⟨eb, 1, none⟩ = some (.int .u64 (e.hi : Int)) := he.cell 1
  have c2 : w.cell? ⟨eb, 2, none⟩ = some (.int .u64 (e.lo : Int)) := he.cell 2
  have c3 : w.cell? ⟨eb, 3, none⟩ = some (.int .u16 (e.port : Int)) := he.cell 3
  have hlt := he.lt
  have hq := eq35 p.e e
  unfold Pth.cells
  go_enter Try.func31, Try.ntmps31
  go_wp2
  go_ret
  exact ⟨rfl, rfl⟩

set_option maxHeartbeats 400000 in
theorem dindex_any (base : Nat) (A : Option Addr) (cap : Nat) (l : List Pth) (e : End) (eb : Nat) (w : World) (hr : PRow w base A cap l) (hl : l.length ≤ 65536) (he : Blk w eb 35 e.cells) :
    Calls Try.prog 44 #[.slice A l.length cap, .func (.func 31) #[] #[.pointer (some ⟨eb, 0, none⟩)]] w fun r w' => r = .returned (.int .i64 (idx l e)) ∧ Below w.heap.size w w' := by
  go_enter Try.func44, Try.ntmps44
  go_wp2_with fail
  go_loopw [8] (fun i wr => ∃ k : Nat, k ≤ l.length ∧ i = .int .i64 (k : Int) ∧ (∀ p ∈ l.take k, p.e.eqb e = false) ∧ Below w.heap.size w wr) (fun i _ => l.length - (intOf i).toNat)
  case atStart => exact ⟨0, Nat.zero_le _, rfl, by simp, Below.refl _ _⟩
  case round =>
    obtain ⟨k, hk, rfl, hno, hb⟩ := hrel
    by_cases hlt : k < l.length
    · obtain ⟨p, hp⟩ : ∃ p, l[k]? = some p := ⟨l[k], List.getElem?_eq_getElem hlt⟩
      obtain ⟨g, rfl, hbg, hgl, hc⟩ := (hr.below hb).at_ hp
      have c0 := hc 0 (by omega)
      have c1 := hc 1 (by omega)
      have c2 := hc 2 (by omega)
      have c3 := hc 3 (by omega)
      have c4 := hc 4 (by omega)
      have c5 := hc 5 (by omega)
      have c6 := hc 6 (by omega)
      have c7 := hc 7 (by omega)
      simp [Pth.cells] at c0 c1 c2 c3 c4 c5 c6 c7
      have Hp := Lib.hid hp
      have Hc := Lib.hid hc
      have Hno := Lib.hid hno
      clear hp hc hno
      cases hq : p.e.eqb e with
      | true =>
        have hidx : idx l e = (k : Int) := by
          have h1 : l.findIdx? (fun p => p.e.eqb e) = some k := by
            rw [List.findIdx?_eq_some_iff_getElem]
            refine ⟨hlt, ?_, fun j hj => ?_⟩
            · have := Hp.out
              rw [List.getElem?_eq_getElem hlt] at this
              injection this with this
              rw [this, hq]
            · have := Hno.out (l[j]) (List.mem_take_iff_getElem.2 ⟨j, by omega, rfl⟩)
              simp [this]
          unfold idx
          rw [h1]
        have Hidx := Lib.hid hidx
        clear hidx
        go_wp2_with fail
        refine (dropc_any p e eb _ (he.below hb he.lt)).mono ?_
        rintro r w' ⟨rfl, rfl⟩
        rw [hq]
        have Hq := Lib.hid hq
        clear hq
        go_wp2_with fail
        go_ret
        exact ⟨by rw [Hidx.out]; rfl, hb.alloc hb.size _⟩
      | false =>
        have hno2 : ∀ x ∈ l.take (k + 1), x.e.eqb e = false := by
          intro x hx
          rw [List.take_succ_eq_append_getElem hlt] at hx
          rcases List.mem_append.1 hx with h1 | h1
          · exact Hno.out x h1
          · rw [List.mem_singleton.1 h1]
            have := Hp.out
            rw [List.getElem?_eq_getElem hlt] at this
            injection this with this
            rw [this, hq]
        have Hno2 := Lib.hid hno2
        clear hno2
        go_wp2_with fail
        refine (dropc_any p e eb _ (he.below hb he.lt)).mono ?_
        rintro r w' ⟨rfl, rfl⟩
        rw [hq]
        have Hq := Lib.hid hq
        clear hq
        go_wp2_with fail
        go_roundw
        case rel => exact ⟨k + 1, by omega, by go_num, Hno2.out, hb.alloc hb.size _⟩
        case measure => simp [intOf]; omega
    · obtain rfl : k = l.length := by omega
      have hidx : idx l e = -1 := by
        have h1 : l.findIdx? (fun p => p.e.eqb e) = none := by
          rw [List.findIdx?_eq_none_iff]
          intro x hx
          exact hno x (by rw [List.take_of_length_le (Nat.le_refl _)]; exact hx)
        unfold idx
        rw [h1]
      have Hidx := Lib.hid hidx
      clear hidx hno
      go_wp2_with fail
      go_ret
      exact ⟨by rw [Hidx.out]; rfl, hb⟩

end Go.Proofs.Ytbopmcdmahabbaa
