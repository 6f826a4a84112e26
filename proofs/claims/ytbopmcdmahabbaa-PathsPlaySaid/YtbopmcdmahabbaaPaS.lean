/- The states of the small known run. -/
import Derived.Test.YtbopmcdmahabbaaPaR
namespace Go.Proofs.Ytbopmcdmahabbaa
open Go.RowKit

theorem txOf_size (c : Nat) : (txOf c).size = 16 := rfl
theorem nums15_size : (strOfNums [0, 0, 0, 0, 0, 0, 0, 0, 0, 0, 0, 0, 0, 0, 0]).size = 15 := rfl
theorem txOf_inj {c d : Nat} (hc : c < 256) (hd : d < 256) (h : txOf c = txOf d) : c = d := by
  have h1 : (txOf c).data.toList.getLast? = (txOf d).data.toList.getLast? := by rw [h]
  have key : ∀ k : Nat, (txOf k).data.toList.getLast? = (strOfNums [(k : Int)]).data.toList.getLast? := by
    intro k
    have : (txOf k).data.toList = (strOfNums [0, 0, 0, 0, 0, 0, 0, 0, 0, 0, 0, 0, 0, 0, 0]).data.toList ++ (strOfNums [(k : Int)]).data.toList := by simp [txOf]
    rw [this]
    simp [strOfNums]
  rw [key, key] at h1
  simp [strOfNums] at h1
  have h2 := congrArg UInt8.toNat h1
  simp only [UInt8.toNat_ofNat'] at h2
  omega

def k1 : Pth := { e := endOf 1, x := 0, y := 0, heard := false, last := 0, lost := 0 }
def k2 : Pth := { e := endOf 2, x := 0, y := 0, heard := false, last := 0, lost := 0 }
def k1a : Pth := { e := endOf 1, x := c4, y := 0, heard := true, last := 4, lost := 0 }
def k1b : Pth := { e := endOf 1, x := c4, y := 0, heard := true, last := 4, lost := 1 }
def k2a : Pth := { e := endOf 2, x := 4611686018427387904, y := 0, heard := true, last := 18, lost := 0 }
def kt (l : List Pth) (p : List Ent) (c : Nat) (u : Option End) : Tab := { wait := 10, life := 100, losses := 2, most := 2, l := l, pings := p, clock := c, used := u }
def x1 : Ent := ⟨txOf 1, endOf 1, 0, 0⟩
def x2 : Ent := ⟨txOf 2, endOf 1, 4, 1⟩
def x3 : Ent := ⟨txOf 3, endOf 2, 16, 2⟩
def t1 := kt [k1] [] 0 none
def t2 := kt [k1, k2] [] 0 none
def t3 := kt [k1, k2] [x1] 1 none
def t4 := kt [k1a, k2] [] 1 none
def t5 := kt [k1a, k2] [x2] 2 none
def t6 := kt [k1b, k2] [] 2 none
def t7 := kt [k1b, k2] [x3] 3 none
def t8 := kt [k1b, k2a] [] 3 none
def t9 := kt [k1b, k2a] [] 3 (some (endOf 2))

theorem t1_is : (Tab.new 10 100 2 2).add (endOf 1) = t1 := rfl
theorem t2_is : t1.add (endOf 2) = t2 := rfl
theorem t2_best : t2.best 0 = t2 := by kernel_rfl
theorem t3_is : t2.sent (txOf 1) (endOf 1) 0 = t3 := by kernel_rfl
theorem fU4 : fU 4 = c4 := by kernel_rfl
theorem fU2 : fU 2 = 4611686018427387904 := by kernel_rfl
theorem t4_is : (t3.quiet (endOf 1)).setP 0 { k1 with x := fU (ago 4 0), y := 0, heard := true, last := 4, lost := 0 } = t4 := by kernel_rfl
theorem t5_is : t4.sent (txOf 2) (endOf 1) 4 = t5 := by kernel_rfl
theorem t6_is : (t5.quiet (endOf 1)).setP 0 { k1a with lost := k1a.lost + 1 } = t6 := by kernel_rfl
theorem t7_is : t6.sent (txOf 3) (endOf 2) 16 = t7 := by kernel_rfl
theorem t8_is : (t7.quiet (endOf 2)).setP 1 { k2 with x := fU (ago 18 16), y := 0, heard := true, last := 18, lost := 0 } = t8 := by kernel_rfl
theorem t9_is : t8.best 18 = t9 := by kernel_rfl
theorem v2 : bestV t2 0 = .tuple #[.agg #[.bool false, .int .u64 0, .int .u64 0, .int .u16 0], .bool false] := by kernel_rfl
theorem v9 : bestV t8 18 = .tuple #[.agg #[.bool false, .int .u64 0, .int .u64 167772160, .int .u16 2], .bool true] := by kernel_rfl
theorem vs : scoreV t4 (endOf 1) 4 = .tuple #[.float .f64 c4, .bool true] := by kernel_rfl

theorem fin_two {t : Tab} {p q : Pth} (hl : t.l = [p, q]) (h1 : F.mul c4 p.y = some 0 ∧ F.add p.x 0 = some (sc p) ∧ F.div (sc p) c8 = some (eighth (sc p)) ∧ p.last < 18446744073709551616) (h2 : F.mul c4 q.y = some 0 ∧ F.add q.x 0 = some (sc q) ∧ F.div (sc q) c8 = some (eighth (sc q)) ∧ q.last < 18446744073709551616)
    (h3 : ∀ a, (a = 0 ∨ a = sc p ∨ a = sc q) → F.add a (eighth (sc p)) = some (plus a (eighth (sc p))) ∧ F.add a (eighth (sc q)) = some (plus a (eighth (sc q)))) : Fin t := by
  have hm : ∀ r ∈ t.l, r = p ∨ r = q := by rw [hl]; simp
  refine ⟨fun r hr => ?_, fun r hr => ?_, fun r hr a ha => ?_, fun r hr => ?_⟩
  · rcases hm r hr with rfl | rfl
    · exact ⟨0, h1.1, h1.2.1⟩
    · exact ⟨0, h2.1, h2.2.1⟩
  · rcases hm r hr with rfl | rfl
    · exact h1.2.2.1
    · exact h2.2.2.1
  · have ha' : a = 0 ∨ a = sc p ∨ a = sc q := by
      rcases ha with h | ⟨s, hs, h⟩
      · exact .inl h
      · rcases hm s hs with rfl | rfl
        · exact .inr (.inl h)
        · exact .inr (.inr h)
    rcases hm r hr with rfl | rfl
    · exact (h3 a ha').1
    · exact (h3 a ha').2
  · rcases hm r hr with rfl | rfl
    · exact h1.2.2.2
    · exact h2.2.2.2

theorem f0 : F.mul c4 0 = some 0 := by kernel_rfl
theorem s1 : sc k1 = 0 := by kernel_rfl
theorem s2 : sc k2 = 0 := by kernel_rfl
theorem s1a : sc k1a = c4 := by kernel_rfl
theorem s1b : sc k1b = c4 := by kernel_rfl
theorem s2a : sc k2a = 4611686018427387904 := by kernel_rfl

theorem fin2 : Fin t2 := by
  refine fin_two (p := k1) (q := k2) rfl ⟨f0, by kernel_rfl, by kernel_rfl, by decide⟩ ⟨f0, by kernel_rfl, by kernel_rfl, by decide⟩ fun a ha => ?_
  rw [s1, s2] at ha
  have : a = 0 := by omega
  subst this
  exact ⟨by kernel_rfl, by kernel_rfl⟩
theorem fin4 : Fin t4 := by
  refine fin_two (p := k1a) (q := k2) rfl ⟨f0, by kernel_rfl, by kernel_rfl, by decide⟩ ⟨f0, by kernel_rfl, by kernel_rfl, by decide⟩ fun a ha => ?_
  rw [s1a, s2] at ha
  rcases ha with rfl | rfl | rfl
  · exact ⟨by kernel_rfl, by kernel_rfl⟩
  · exact ⟨by kernel_rfl, by kernel_rfl⟩
  · exact ⟨by kernel_rfl, by kernel_rfl⟩
theorem fin8 : Fin t8 := by
  refine fin_two (p := k1b) (q := k2a) rfl ⟨f0, by kernel_rfl, by kernel_rfl, by decide⟩ ⟨f0, by kernel_rfl, by kernel_rfl, by decide⟩ fun a ha => ?_
  rw [s1b, s2a] at ha
  rcases ha with rfl | rfl | rfl
  · exact ⟨by kernel_rfl, by kernel_rfl⟩
  · exact ⟨by kernel_rfl, by kernel_rfl⟩
  · exact ⟨by kernel_rfl, by kernel_rfl⟩

end Go.Proofs.Ytbopmcdmahabbaa
