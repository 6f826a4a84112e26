/- PathsLosses: the calls at its states. -/
import Derived.Test.YtbopmcdmahabbaaPbC
namespace Go.Proofs.Ytbopmcdmahabbaa
open Go.RowKit

theorem ewma1 : Ewma (fU 1) (fU 1) 0 (fU 1) 0 :=
  ⟨0, 0, 0, 0, 0, 0, 0, 0, by kernel_rfl, by decide, by kernel_rfl, by kernel_rfl, by kernel_rfl, by kernel_rfl, by kernel_rfl, by kernel_rfl, by kernel_rfl, by kernel_rfl, by kernel_rfl⟩

section
variable {n b : Nat} {w : World} {wa li lo mo : Nat}

theorem ls_ok0 (l : List Pth) (c : Nat) (u : Option End) : (ls wa li lo mo l [] c u).Ok := ok_nil rfl
theorem ls_ok1 (last i at_ c c' : Nat) (j : Int) (u : Option End) (h : c < c') : (ls wa li lo mo [lp last j] [⟨txOf i, endOf 1, at_, c⟩] c' u).Ok := ok_one rfl h (List.mem_singleton.2 rfl) rfl
theorem ls_okk : (ls wa li lo mo [k1] [⟨txOf 0, endOf 1, 0, 0⟩] 1 none).Ok := ok_one rfl (show 0 < 1 by omega) (List.mem_singleton.2 rfl) rfl
theorem ls_findk (pg : List Ent) (c : Nat) (u : Option End) : findI (ls wa li lo mo [k1] pg c u).l (endOf 1) = some 0 := by kernel_rfl
theorem ls_find (last : Nat) (j : Int) (pg : List Ent) (c : Nat) (u : Option End) : findI (ls wa li lo mo [lp last j] pg c u).l (endOf 1) = some 0 := by kernel_rfl

theorem l_add (h : Live n b (Tab.new wa li lo mo) w) (hm : 1 ≤ mo) : Calls Try.prog 9 #[ptr b, .agg (endOf 1).cells] w (Does n b (ls wa li lo mo [k1] [] 0 none) (.int .i64 0) w) := by
  have := live_add_ok h (endOf 1) (by kernel_rfl) hm
  rwa [ls_add] at this
theorem l_sent0 (h : Live n b (ls wa li lo mo [k1] [] 0 none) w) : Calls Try.prog 11 #[ptr b, .string (txOf 0), .agg (endOf 1).cells, .int .u64 0] w (Does n b (ls wa li lo mo [k1] [⟨txOf 0, endOf 1, 0, 0⟩] 1 none) (.int .i64 0) w) := by
  have := live_sent_ok h (ls_ok0 _ _ _) (txOf 0) (endOf 1) 0 (txOf_size 0) (ls_findk _ _ _) (fun x hx => by cases hx)
  rwa [ls_sent0] at this
theorem l_pong0 (h : Live n b (ls wa li lo mo [k1] [⟨txOf 0, endOf 1, 0, 0⟩] 1 none) w) (hw : 1 ≤ wa) : Calls Try.prog 13 #[ptr b, .string (txOf 0), .agg (endOf 1).cells, .int .u64 1] w (Does n b (ls wa li lo mo [lp 1 0] [] 1 none) (.int .i64 0) w) := by
  have := live_pong_first h ls_okk (txOf 0) 1 (x := ⟨txOf 0, endOf 1, 0, 0⟩) (List.mem_singleton.2 rfl) rfl (by omega) (show 0 < 18446744073709551616 by omega) (ls_findk _ _ _) (p := k1) rfl (show ago 1 0 ≤ wa from hw) rfl
  rwa [ls_pong0] at this
theorem l_sent (i c : Nat) (j : Int) (u : Option End) (h : Live n b (ls wa li lo mo [lp 1 j] [] c u) w) : Calls Try.prog 11 #[ptr b, .string (txOf i), .agg (endOf 1).cells, .int .u64 1] w (Does n b (ls wa li lo mo [lp 1 j] [⟨txOf i, endOf 1, 1, c⟩] (c + 1) u) (.int .i64 0) w) := by
  have := live_sent_ok h (ls_ok0 _ _ _) (txOf i) (endOf 1) 1 (txOf_size i) (ls_find _ _ _ _ _) (fun x hx => by cases hx)
  rwa [ls_sent] at this

theorem l_lost {pg : List Ent} {c : Nat} {u : Option End} {j : Int} (hj : 0 ≤ j ∧ j < 1000) : ∀ p ∈ (ls wa li lo mo [lp 1 j] pg c u).l, 0 ≤ p.lost ∧ p.lost < 1000 := fun p hp => by
  rw [List.mem_singleton.1 hp]
  exact hj
theorem l_tidy1 (i c : Nat) (j : Int) (u : Option End) (h : Live n b (ls wa li lo mo [lp 1 j] [⟨txOf i, endOf 1, 1, c⟩] (c + 1) u) w) (hj : 0 ≤ j ∧ j < 1000) (hw : wa ≤ 1099511627776) :
    Calls Try.prog 14 #[ptr b, .int .u64 (1 + (wa : Int))] w (Does n b (ls wa li lo mo [lp 1 j] [⟨txOf i, endOf 1, 1, c⟩] (c + 1) u) (.int .i64 0) w) := by
  have := live_tidy h (ls_ok1 _ _ _ _ _ _ _ (Nat.lt_succ_self c)) (1 + wa) (by omega) (fun x hx => by rw [List.mem_singleton.1 hx]; show 1 < 18446744073709551616; omega) (l_lost hj) (show 1 < 1000000 by omega)
  have e : tidyN (ls wa li lo mo [lp 1 j] [⟨txOf i, endOf 1, 1, c⟩] (c + 1) u) (1 + wa) = 0 := by
    unfold tidyN
    rw [ls_tidy1]
    exact Nat.sub_self _
  rw [ls_tidy1, e] at this
  exact this
theorem l_tidy2 (i c : Nat) (j : Int) (u : Option End) (h : Live n b (ls wa li lo mo [lp 1 j] [⟨txOf i, endOf 1, 1, c⟩] (c + 1) u) w) (hj : 0 ≤ j ∧ j < 1000) (hw : wa ≤ 1099511627776) :
    Calls Try.prog 14 #[ptr b, .int .u64 (2 + (wa : Int))] w (Does n b (ls wa li lo mo [lp 1 (j + 1)] [] (c + 1) u) (.int .i64 1) w) := by
  have := live_tidy h (ls_ok1 _ _ _ _ _ _ _ (Nat.lt_succ_self c)) (2 + wa) (by omega) (fun x hx => by rw [List.mem_singleton.1 hx]; show 1 < 18446744073709551616; omega) (l_lost hj) (show 1 < 1000000 by omega)
  have e : tidyN (ls wa li lo mo [lp 1 j] [⟨txOf i, endOf 1, 1, c⟩] (c + 1) u) (2 + wa) = 1 := by
    unfold tidyN
    rw [ls_tidy2]
    rfl
  rw [ls_tidy2, e] at this
  exact this
theorem l_tidy3 (c : Nat) (j : Int) (u : Option End) (h : Live n b (ls wa li lo mo [lp 1 j] [] c u) w) (hj : 0 ≤ j ∧ j < 1000) (hw : wa ≤ 1099511627776) :
    Calls Try.prog 14 #[ptr b, .int .u64 (2 + (wa : Int))] w (Does n b (ls wa li lo mo [lp 1 j] [] c u) (.int .i64 0) w) := by
  have := live_tidy h (ls_ok0 _ _ _) (2 + wa) (by omega) (fun x hx => by cases hx) (l_lost hj) (show 0 < 1000000 by omega)
  have e : tidyN (ls wa li lo mo [lp 1 j] [] c u) (2 + wa) = 0 := by
    unfold tidyN
    rw [ls_tidy3]
    rfl
  rw [ls_tidy3, e] at this
  exact this

/- What Best answers of the one path. -/
def oneV (o : Option End) : Value := .tuple #[.agg #[.bool (o.getD End.zero).v6, .int .u64 ((o.getD End.zero).hi : Int), .int .u64 ((o.getD End.zero).lo : Int), .int .u16 ((o.getD End.zero).port : Int)], .bool o.isSome]

theorem l_best1 (c : Nat) (j : Int) (h : Live n b (ls wa li lo mo [lp 1 j] [] c none) w) :
    Calls Try.prog 15 #[ptr b, .int .u64 1] w (Does n b (ls wa li lo mo [lp 1 j] [] c (if j < (lo : Int) then some (endOf 1) else none)) (oneV (if j < (lo : Int) then some (endOf 1) else none)) w) := by
  have := live_best h (ls_fin wa li lo mo 1 j [] c none (by omega)) 1 (by omega) (by intro h; cases h)
  have e := best_single (T := ls wa li lo mo [lp 1 j] [] c none) (now := 1) rfl rfl
  rw [ls_there] at e
  have e2 : bestE (ls wa li lo mo [lp 1 j] [] c none) 1 = if j < (lo : Int) then some (endOf 1) else none := by
    rw [e]
    simp only [decide_eq_true_eq]
    rfl
  have e3 : (ls wa li lo mo [lp 1 j] [] c none).best 1 = ls wa li lo mo [lp 1 j] [] c (bestE (ls wa li lo mo [lp 1 j] [] c none) 1) := rfl
  have e4 : bestV (ls wa li lo mo [lp 1 j] [] c none) 1 = oneV (bestE (ls wa li lo mo [lp 1 j] [] c none) 1) := rfl
  rw [e3, e4, e2] at this
  exact this
theorem l_pong2 (i c : Nat) (j : Int) (u : Option End) (h : Live n b (ls wa li lo mo [lp 1 j] [⟨txOf i, endOf 1, 1, c⟩] (c + 1) u) w) (hw : 1 ≤ wa) :
    Calls Try.prog 13 #[ptr b, .string (txOf i), .agg (endOf 1).cells, .int .u64 2] w (Does n b (ls wa li lo mo [lp 2 0] [] (c + 1) u) (.int .i64 0) w) := by
  have := live_pong_heard h (ls_ok1 _ _ _ _ _ _ _ (Nat.lt_succ_self c)) (txOf i) 2 (x := ⟨txOf i, endOf 1, 1, c⟩) (List.mem_singleton.2 rfl) rfl (by omega) (show 1 < 18446744073709551616 by omega) (ls_find _ _ _ _ _) (p := lp 1 j) rfl (show ago 2 1 ≤ wa from hw) rfl ewma1
  rwa [ls_pong2] at this
theorem l_best2 (c : Nat) (u : Option End) (hu : u = none ∨ u = some (endOf 1)) (hl : 1 ≤ lo) (h : Live n b (ls wa li lo mo [lp 2 0] [] c u) w) :
    Calls Try.prog 15 #[ptr b, .int .u64 2] w (Does n b (ls wa li lo mo [lp 2 0] [] c (some (endOf 1))) (oneV (some (endOf 1))) w) := by
  have := live_best h (ls_fin wa li lo mo 2 0 [] c u (by omega)) 2 (by omega) (by intro h; cases h)
  have ht := ls_there wa li lo mo 0 c 2 u
  rw [show decide ((0 : Int) < (lo : Int)) = true by rw [decide_eq_true_eq]; omega] at ht
  have e2 := best_single_yes (T := ls wa li lo mo [lp 2 0] [] c u) (now := 2) rfl hu ht
  have e3 : (ls wa li lo mo [lp 2 0] [] c u).best 2 = ls wa li lo mo [lp 2 0] [] c (bestE (ls wa li lo mo [lp 2 0] [] c u) 2) := rfl
  have e4 : bestV (ls wa li lo mo [lp 2 0] [] c u) 2 = oneV (bestE (ls wa li lo mo [lp 2 0] [] c u) 2) := rfl
  rw [e3, e4, e2] at this
  exact this
end

end Go.Proofs.Ytbopmcdmahabbaa
