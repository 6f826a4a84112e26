/- Joined out of: PlK PlL RgE. -/
import Derived.Test.YtbiglifngfgffaaGreatDoorKai
import Derived.Deep.AppendLies
import Derived.Deep.RegionHeldLaw
set_option linter.unusedVariables false
set_option linter.unusedSimpArgs false

/- Protocols (protos): the walk. -/
namespace Go.Proofs.YtbiglifngfgffaaGreatDoor
open Go.RowKit
attribute [local go_sem ↓] Go.wp_at_zero Go.wp_at_succ

/- A text in pieces. -/
def splitP (c : UInt8) (s : ByteArray) : List ByteArray := (split1 c s.data.toList).map ofL
theorem splitP_lists (c : UInt8) (s : ByteArray) : (splitP c s).map (·.data.toList) = split1 c s.data.toList := by
  unfold splitP
  rw [List.map_map]
  exact List.map_id _
theorem splitP_size {c : UInt8} {s : ByteArray} : ∀ t ∈ splitP c s, t.size ≤ s.size := by
  intro t ht
  obtain ⟨x, hx, rfl⟩ := List.mem_map.1 ht
  have := split1_size hx
  rw [show s.data.toList.length = s.size from (Lib.size_eq s).symm] at this
  show (x.toArray).size ≤ s.size
  rw [List.size_toArray]
  exact this
theorem splitP_length (c : UInt8) (s : ByteArray) : (splitP c s).length ≤ s.size + 1 := by
  unfold splitP
  rw [List.length_map]
  have := split1_length c s.data.toList
  rw [show s.data.toList.length = s.size from (Lib.size_eq s).symm] at this
  omega
theorem split_call {w : World} (env : Env w) (s : ByteArray) (hs : s.size ≤ 2000000) (c : UInt8) : Calls Tryz.prog 26 #[.string s, .string ⟨#[c]⟩] w fun r w' => r = .returned (.slice (some ⟨w.heap.size, 0, none⟩) (splitP c s).length (splitP c s).length) ∧ w' = w.alloc (.cells ((splitP c s).map Value.string).toArray 9) := by
  obtain ⟨m, hm⟩ := env.mx
  have HS := Tryz.strings_Split s ⟨#[c]⟩ m w (by omega) hm (show 1 ≤ 1 from Nat.le_refl _)
  have hsp := splitB_one s ⟨#[c]⟩ c rfl
  have hP : Lib.splitB ⟨#[c]⟩ 0 (Lib.countB s ⟨#[c]⟩) s = splitP c s := by
    unfold splitP
    rw [← hsp, List.map_map]
    exact (List.map_id _).symm
  have hcount : Lib.countB s ⟨#[c]⟩ + 1 = (splitP c s).length := by
    have := Lib.splitB_all (⟨#[c]⟩ : ByteArray) (show 1 ≤ 1 from Nat.le_refl _) 0 (Lib.countB s ⟨#[c]⟩) s rfl
    rw [hP] at this
    omega
  rw [hcount, hP] at HS
  exact HS.mono fun r w' h => h
def protosL : List SE := [⟨W_icmp, .int .u8 1, 0⟩, ⟨W_tcp, .int .u8 6, 1⟩, ⟨W_udp, .int .u8 17, 2⟩]
theorem protos_lookup {w : World} {m clock : Nat} (h : MBlk w m protosL clock) (s : ByteArray) : (Instr.lookup 184 (.map (some m)) (.string s) false).run Tryz.prog w = .ok (.int .u8 (protoN s.data.toList : Int)) w := by
  have hT := Tryz.underlying184
  have hK := Tryz.underlying9
  unfold protoN
  rw [ofL_back]
  by_cases e1 : s = W_icmp
  · subst e1
    rw [if_pos rfl]
    exact run_lookup1 hT hK h _ (j := 0) (x := ⟨W_icmp, .int .u8 1, 0⟩) (by decide +kernel) rfl
  rw [if_neg e1]
  by_cases e2 : s = W_tcp
  · subst e2
    rw [if_pos rfl]
    exact run_lookup1 hT hK h _ (j := 1) (x := ⟨W_tcp, .int .u8 6, 1⟩) (by decide +kernel) rfl
  rw [if_neg e2]
  by_cases e3 : s = W_udp
  · subst e3
    rw [if_pos rfl]
    exact run_lookup1 hT hK h _ (j := 2) (x := ⟨W_udp, .int .u8 17, 2⟩) (by decide +kernel) rfl
  rw [if_neg e3]
  refine run_lookup1_none hT hK h s ?_ (Tryz.zeroValue5 w)
  unfold at_ protosL
  simp only [List.findIdx?_cons, List.findIdx?_nil]
  rw [beq_false_of (Ne.symm e1), beq_false_of (Ne.symm e2), beq_false_of (Ne.symm e3)]
  rfl
theorem protos_made (w0 : World) : ∃ w1 w2 w3 : World, (Instr.mapUpdate 184 (.map (some w0.heap.size)) (.string ⟨#[105, 99, 109, 112]⟩) (.int .u8 1)).run Tryz.prog (w0.alloc (.map #[] 0)) = .ok () w1 ∧
    (Instr.mapUpdate 184 (.map (some w0.heap.size)) (.string ⟨#[116, 99, 112]⟩) (.int .u8 6)).run Tryz.prog w1 = .ok () w2 ∧
    (Instr.mapUpdate 184 (.map (some w0.heap.size)) (.string ⟨#[117, 100, 112]⟩) (.int .u8 17)).run Tryz.prog w2 = .ok () w3 ∧ MBlk w3 w0.heap.size protosL 3 ∧ Below w0.heap.size w0 w3 := by
  have hT := Tryz.underlying184
  have hK := Tryz.underlying9
  have h0 : MBlk (w0.alloc (.map #[] 0)) w0.heap.size [] 0 := heap_alloc_new w0 _
  obtain ⟨w1, e1, _, _, k1, m1⟩ := update_sm (P := Tryz.prog) hT hK h0 ⟨#[105, 99, 109, 112]⟩ (by decide +kernel) (.int .u8 1)
  obtain ⟨w2, e2, _, _, k2, m2⟩ := update_sm (P := Tryz.prog) hT hK m1 ⟨#[116, 99, 112]⟩ (by decide +kernel) (.int .u8 6)
  obtain ⟨w3, e3, _, _, k3, m3⟩ := update_sm (P := Tryz.prog) hT hK m2 ⟨#[117, 100, 112]⟩ (by decide +kernel) (.int .u8 17)
  refine ⟨w1, w2, w3, e1, e2, e3, m3, ?_⟩
  exact (boxed w0 _).trans (Keeps.below ((k1.trans k2).trans k3) (fun k hk => by rw [hk]; exact Nat.le_refl _) (by simp))
/- What protos hands back. -/
def protoCells (l : List Nat) : List Value := l.map fun x : Nat => Value.int .u8 (x : Int)
def ProtosGot (o : Option (List Nat)) (w : World) (r : Ending) (w' : World) : Prop := (match o with
  | none => r = .returned (.tuple #[.slice none 0 0, .bool false])
  | some L => ∃ v : Value, r = .returned (.tuple #[v, .bool true]) ∧ w'.ownsRow w.heap.size 5 1 v L.length (protoCells L)) ∧ Below w.heap.size w w'
theorem ProtosGot.bad {W w' : World} {o : Option (List Nat)} (h : o = none) (hb : Below W.heap.size W w') : ProtosGot o W (.returned (.tuple #[.slice none 0 0, .bool false])) w' := by rw [h]; exact ⟨rfl, hb⟩
theorem ProtosGot.good {W w' : World} {o : Option (List Nat)} {L : List Nat} {v : Value} (h : o = some L) (ho : w'.ownsRow W.heap.size 5 1 v L.length (protoCells L)) (hb : Below W.heap.size W w') : ProtosGot o W (.returned (.tuple #[v, .bool true])) w' := by rw [h]; exact ⟨⟨v, rfl, ho⟩, hb⟩
theorem info_u8p : (Tryz.prog.info? 5).map (fun i => (i.zero, i.size, i.bytes)) = some (some (.int .u8 0), 1, 1) := by kernel_rfl
def lastN (l : List Nat) : Nat := (l[l.length - 1]?).getD 0
theorem lastN_cell {l : List Nat} (h : 0 < l.length) : (protoCells l)[l.length - 1]? = some (.int .u8 (lastN l : Int)) := by
  unfold protoCells lastN
  rw [List.getElem?_map, List.getElem?_eq_getElem (by omega)]
  rfl
theorem lastN_snoc (l : List Nat) (x : Nat) : lastN (l ++ [x]) = x := by simp [lastN]
theorem protoCells_snoc (l : List Nat) (x : Nat) : protoCells (l ++ [x]) = protoCells l ++ [.int .u8 (x : Int)] := by simp [protoCells]
theorem protoN_le (w : List UInt8) : protoN w ≤ 17 := by unfold protoN; split; omega; split; omega; split <;> omega
theorem protosGo_step {last : Nat} {acc : List Nat} {t : List UInt8} {r : List (List UInt8)} : (protosGo last (t :: r)).map (acc ++ ·) = if protoN t = 0 ∨ protoN t ≤ last then none else (protosGo (protoN t) r).map ((acc ++ [protoN t]) ++ ·) := by
  rw [protosGo]
  split
  · rfl
  · rw [Option.map_map]
    congr 1
    funext x
    simp

set_option maxHeartbeats 8000000 in
set_option maxRecDepth 100000 in
theorem protos_any {w : World} (env : Env w) (s : ByteArray) (hs : s.size ≤ 2000000) : Calls Tryz.prog 96 #[.string s] w (ProtosGot (protosP s) w) := by
  by_cases hst : s = W_any
  · subst hst
    rw [show protosP W_any = some [] by unfold protosP; rw [if_pos rfl]]
    unfold W_any
    have hb0 := Below.refl w.heap.size w
    clear env hs
    go_enter Tryz.func96, Tryz.ntmps96
    go_wp2_with fail
    go_ret2
    exact ProtosGot.good (v := .slice none 0 0) rfl (World.ownsRow_nil _ _ _ _) hb0
  · have hss : (s.toList == [97, 110, 121]) = false := by
      rw [beq_eq_false_iff_ne]
      intro h
      rw [ByteArray.toList_eq] at h
      exact hst (ByteArray.ext (Array.ext' h))
    obtain ⟨i0, hi, hz0, hz1, hz2⟩ := info_parts info_u8p
    have hmm := @run_makeMap Tryz.prog
    obtain ⟨w1, w2, w3, e1, e2, e3, hM, hbm⟩ := protos_made w
    have hsp := split_call (env.below hbm) s hs 44
    obtain ⟨RES, hRES⟩ : ∃ r, r = protosP s := ⟨_, rfl⟩
    rw [← hRES]
    unfold protosP at hRES
    rw [if_neg hst, ← splitP_lists] at hRES
    have hFl := splitP_length 44 s
    generalize splitP 44 s = F at hsp hRES hFl
    obtain ⟨N, hN⟩ : ∃ n, n = F.length := ⟨_, rfl⟩
    rw [← hN] at hsp hFl
    have hN1 : N ≤ 2000001 := by omega
    have HSp := Lib.hid hsp
    have HRES : RowKit.Hid (RES = (protosGo (lastN []) ((F.map (·.data.toList)).drop 0)).map (([] : List Nat) ++ ·)) := Lib.hid (by rw [hRES]; simp [lastN])
    have HN := Lib.hid hN
    have HM := Lib.hid hM
    have Hbm := Lib.hid hbm
    have hsz3 : w.heap.size < w3.heap.size := hM.lt
    clear hsp hRES hM hbm hN hst env hFl
    go_enter Tryz.func96, Tryz.ntmps96
    go_wp2_with (go_at_call 26; (with_reducible refine HSp.out.mono ?_); rintro r wq ⟨rfl, rfl⟩)
    have hrow : Blk (w3.alloc (.cells (F.map Value.string).toArray 9)) w3.heap.size 9 (F.map Value.string).toArray := Blk.new _ _ _
    have hb1 := boxed w3 (.cells (F.map Value.string).toArray 9)
    have Hb0 := Lib.hid (after Hbm.out hb1)
    have HM0 := Lib.hid (HM.out.below hb1 HM.out.lt)
    have Hrow := Lib.hid hrow
    have hsz0 : w3.heap.size < (w3.alloc (.cells (F.map Value.string).toArray 9)).heap.size := by simp
    clear e1 e2 e3 hmm hb1 hrow HSp Hbm HM
    generalize w3.alloc (.cells (F.map Value.string).toArray 9) = W0 at Hb0 HM0 Hrow hsz0 ⊢
    generalize w3.heap.size = gR at Hrow hsz0 hsz3 ⊢
    have hmW : w.heap.size < W0.heap.size := by omega
    go_loopw [2, 15] (fun v2 v15 wr => ∃ (k : Nat) (acc : List Nat) (A : Option Addr) (cap : Nat), k ≤ N ∧ v15 = .int .i64 (k : Int) ∧ v2 = .slice A acc.length cap ∧ acc.length ≤ k ∧ RowKit.Hid (wr.ownsRow W0.heap.size 5 1 (.slice A acc.length cap) acc.length (protoCells acc)) ∧ RowKit.Hid (Below W0.heap.size W0 wr) ∧ RowKit.Hid (RES = (protosGo (lastN acc) ((F.map (·.data.toList)).drop k)).map (acc ++ ·))) (fun _ v15 _ => N - (intOf v15).toNat)
    case atStart => exact ⟨0, [], none, 0, Nat.zero_le _, rfl, rfl, by simp, Lib.hid (World.ownsRow_nil _ _ _ _), Lib.hid (Below.refl _ _), HRES⟩
    case round =>
      obtain ⟨k, acc, A, cap, hk, rfl, rfl, hak, hown, hb, hres⟩ := hrel
      by_cases hlt : k < N
      · have hkF : k < F.length := by have := HN.out; omega
        have cx := (hb.out.cell (p := ⟨gR, k, none⟩) hsz0).trans (Hrow.out.cell k)
        rw [List.getElem?_toArray, List.getElem?_map, List.getElem?_eq_getElem hkF] at cx
        simp only [Option.map_some] at cx
        have hres2 := hres.out
        rw [← List.map_drop, List.drop_eq_getElem_cons hkF, List.map_cons, protosGo_step, List.map_drop] at hres2
        generalize F[k]'hkF = T at cx hres2
        have hlk := protos_lookup (HM0.out.below hb.out hmW) T
        have hx17 := protoN_le T.data.toList
        generalize protoN T.data.toList = x at hres2 hlk hx17
        have Hres2 := Lib.hid hres2
        clear hres2 hres hkF
        by_cases hx0 : x = 0
        · subst hx0
          have hR := Hres2.out
          rw [if_pos (Or.inl rfl)] at hR
          have HR := Lib.hid hR
          clear hR Hres2
          go_wp2_with fail
          go_ret2
          exact ProtosGot.bad HR.out (after Hb0.out hb.out)
        have q0 : ((x : Int) == 0) = false := by simp; omega
        by_cases hac : acc.length = 0
        · obtain rfl := List.eq_nil_of_length_eq_zero hac
          have hR := Hres2.out
          rw [if_neg (by simp [lastN]; omega)] at hR
          have HRn : RowKit.Hid (RES = (protosGo (lastN ([] ++ [x])) ((F.map (·.data.toList)).drop (k + 1))).map (([] ++ [x]) ++ ·)) := Lib.hid (by rw [lastN_snoc]; exact hR)
          clear hR Hres2 hx0
          go_wp2_with (at_builtin; refine wpList_append_own _ rfl _ _ 40 rfl W0.heap.size 5 i0 (.int .u8 0) 1 1 Tryz.underlying40 hi hz0 hz1 hz2 rfl (by decide) _ 0 _ rfl (hown.out.alloc _) ⟨wr.heap.size, 0, none⟩ 1 1 [.int .u8 (x : Int)] rfl rfl (cell_one_new _ _ _) (fun x hx => by simp at hx; subst hx; rfl) (by unfold maxLen; omega) (by omega) (by have := hb.out.size; simp; omega) ?_; intro v' w3 hown' hgrow3 hnil3; have Ho4 := Lib.hid hown'; have hbW := Lib.hid ((hb.out.alloc (hb.out.size) _).grown hgrow3 (by have := hb.out.size; simp; omega) (fun q hq => (hown.out.lt q hq).1)); clear hown' hgrow3 hnil3)
          obtain ⟨A', cap', rfl⟩ := own_shape Ho4.out
          go_roundw
          case rel => exact ⟨k + 1, [] ++ [x], A', cap', by omega, by go_num, by rw [List.length_append]; rfl, by rw [List.length_append, List.length_singleton]; simp, Lib.hid (by rw [protoCells_snoc, List.length_append]; exact Ho4.out), hbW, HRn⟩
          case measure => simp [intOf]; omega
        · have hpos : 0 < acc.length := by omega
          have hl := lastN_cell hpos
          rcases hown.out.2 with ⟨e, _⟩ | ⟨g, cap2, cur, e, hrest⟩
          · injection e with e1 e2 e3
            exact absurd e2 hac
          injection e with e1 e2 e3
          subst e1
          have c2 := (hown.out.cellAt (acc.length - 1) (by omega)).trans hl
          generalize hM : acc.length = M at hac hpos c2 hown hak ⊢
          have j1 : IntKind.i64.wrap ((M : Int) - 1) = ((M - 1 : Nat) : Int) := by rw [IntKind.wrap_i64]; omega
          have j2 : (0 : Int) < (M : Int) := by omega
          generalize hLN : lastN acc = LN at c2 hl Hres2
          have HM1 := Lib.hid hM
          clear hM hl hrest cur hx0
          by_cases hge : x ≤ LN
          · have hR := Hres2.out
            rw [if_pos (Or.inr hge)] at hR
            have HR := Lib.hid hR
            have j3 : (x : Int) ≤ (LN : Int) := by omega
            clear hR Hres2 hge
            go_wp2_with fail
            go_ret2
            exact ProtosGot.bad HR.out (after Hb0.out hb.out)
          · have hR := Hres2.out
            rw [if_neg (by omega)] at hR
            have HRn : RowKit.Hid (RES = (protosGo (lastN (acc ++ [x])) ((F.map (·.data.toList)).drop (k + 1))).map ((acc ++ [x]) ++ ·)) := Lib.hid (by rw [lastN_snoc]; exact hR)
            have j3 : ¬ (x : Int) ≤ (LN : Int) := by omega
            clear hR Hres2 hge
            go_wp2_with (at_builtin; refine wpList_append_own _ rfl _ _ 40 rfl W0.heap.size 5 i0 (.int .u8 0) 1 1 Tryz.underlying40 hi hz0 hz1 hz2 rfl (by decide) _ M _ rfl (hown.out.alloc _) ⟨wr.heap.size, 0, none⟩ 1 1 [.int .u8 (x : Int)] rfl rfl (cell_one_new _ _ _) (fun x hx => by simp at hx; subst hx; rfl) (by unfold maxLen; omega) (by omega) (by have := hb.out.size; simp; omega) ?_; intro v' w3 hown' hgrow3 hnil3; have Ho4 := Lib.hid hown'; have hbW := Lib.hid ((hb.out.alloc (hb.out.size) _).grown hgrow3 (by have := hb.out.size; simp; omega) (fun q hq => (hown.out.lt q hq).1)); clear hown' hgrow3 hnil3)
            obtain ⟨A', cap', rfl⟩ := own_shape Ho4.out
            go_roundw
            case rel => exact ⟨k + 1, acc ++ [x], A', cap', by omega, by go_num, by rw [List.length_append, HM1.out]; rfl, by rw [List.length_append, List.length_singleton, HM1.out]; omega, Lib.hid (by rw [protoCells_snoc, List.length_append, HM1.out]; exact Ho4.out), hbW, HRn⟩
            case measure => simp [intOf]; omega
      · obtain rfl : k = N := by omega
        have hR := hres.out
        rw [List.drop_eq_nil_of_le (by rw [List.length_map]; have := HN.out; omega), protosGo] at hR
        have HR := Lib.hid hR
        clear hR hres
        go_wp2_with fail
        go_ret2
        exact ProtosGot.good (L := acc) (by rw [HR.out]; simp) (hown.out.mono Hb0.out.size) (after Hb0.out hb.out)
end Go.Proofs.YtbiglifngfgffaaGreatDoor

/- The policy in memory: rows of rows; what a step may turn. -/
namespace Go.Proofs.YtbiglifngfgffaaGreatDoor
open Go.RowKit

/- What may turn is of these types. -/
def Off (S : Nat → Prop) (w : World) (T : List TypeId) : Prop := ∀ k, S k → ∃ cur e fz, w.heap[k]? = some (.cells cur e fz) ∧ e ∈ T
theorem own_off {S : Nat → Prop} {w w' : World} {T : List TypeId} {base size n : Nat} {e : TypeId} {v : Value} {xs : List Value} (h : w.ownsRow base e size v n xs) (hk : Keeps S w w') (ho : Off S w T) (he : e ∉ T) : w'.ownsRow base e size v n xs := by
  refine own_keep h hk fun g hg hs => ?_
  rcases h.2 with ⟨e1, _⟩ | ⟨g', cap, cur, e1, hb, hg', rest⟩
  · subst e1; cases hg
  · subst e1
    injection hg with hg
    subst hg
    obtain ⟨cur2, e2, fz, hh, hT⟩ := ho _ hs
    rw [hg'] at hh
    injection hh with hh
    injection hh with _ h2 _
    exact he (h2 ▸ hT)
theorem Blk.off {S : Nat → Prop} {w w' : World} {T : List TypeId} {g : Nat} {e : TypeId} {cs : Array Value} (h : Blk w g e cs) (hk : Keeps S w w') (ho : Off S w T) (he : e ∉ T) : Blk w' g e cs := by
  refine h.keep hk fun hs => ?_
  obtain ⟨cur2, e2, fz, hh, hT⟩ := ho _ hs
  unfold Blk at h
  rw [h] at hh
  injection hh with hh
  injection hh with _ h2 _
  exact he (h2 ▸ hT)
theorem ownOff {w : World} {base size n : Nat} {e : TypeId} {v : Value} {xs : List Value} (h : w.ownsRow base e size v n xs) : Off (fun k => v.ownBlock = some k) w [e] := by
  intro k hk
  rcases h.2 with ⟨e1, _⟩ | ⟨g', cap, cur, e1, hb, hg', rest⟩
  · subst e1; cases hk
  · subst e1
    injection hk with hk
    subst hk
    exact ⟨cur, e, (0, 0), hg', List.mem_singleton.2 rfl⟩
theorem Keeps.row {w w' : World} {row : Option Nat} (h : w.grownBy w' row) : Keeps (fun k => row = some k) w w' := Keeps.of_grown h fun k hk => hk
theorem Rs.off {S : Nat → Prop} {w w' : World} {T : List TypeId} {b P k n : Nat} {lv uv : Value} {ws : List ByteArray} (h : Rs w b P k n lv uv ws) (hk : Keeps S w w') (ho : Off S w T) (h1 : 81 ∉ T) (h2 : 89 ∉ T) : Rs w' b P k n lv uv ws := by
  refine ⟨Blk.off h.blk hk ho h1, ?_, h.ne, h.len, h.sizes⟩
  obtain ⟨base, hb⟩ := h.row
  exact ⟨base, own_off hb hk ho h2⟩
theorem Rs.alloc {w : World} {b P k n : Nat} {lv uv : Value} {ws : List ByteArray} (h : Rs w b P k n lv uv ws) (o : Obj) : Rs (w.alloc o) b P k n lv uv ws := h.below (boxed w o)
theorem Keeps.grown {S : Nat → Prop} {a w w' : World} {row : Option Nat} (h : Keeps S a w) (hg : w.grownBy w' row) (hr : ∀ k, row = some k → S k ∨ a.heap.size ≤ k) : Keeps S a w' :=
  ⟨hg.os.trans h.os, hg.tape.trans h.tape, hg.output.trans h.output, Nat.le_trans h.size hg.size, fun k hk hs => (hg.block k (Nat.lt_of_lt_of_le hk h.size) (fun e => by
    rcases hr k e.symm with h | h
    · exact hs h
    · omega)).trans (h.block k hk hs)⟩

/- Names: groups, or tags. -/
def strCells (l : List ByteArray) : List Value := l.map Value.string
theorem strCells_snoc (l : List ByteArray) (s : ByteArray) : strCells (l ++ [s]) = strCells l ++ [.string s] := by simp [strCells]
def nmPair (x : Nm × Value) : ByteArray × Value := (x.1.name, x.2)
def NmRow (w : World) (base : Nat) (v : Value) (l : List Nm) : Prop := ∃ xs : List (Nm × Value), xs.map (·.1) = l ∧ w.ownsRow base 46 2 v l.length (nmCells (xs.map nmPair)) ∧ ∀ x ∈ xs, w.ownsRow base 9 1 x.2 x.1.list.length (strCells x.1.list)
theorem NmRow.nil (w : World) (base : Nat) : NmRow w base (.slice none 0 0) [] := ⟨[], rfl, World.ownsRow_nil _ _ _ _, fun x hx => by cases hx⟩
theorem nmCells_snoc (l : List (ByteArray × Value)) (x : ByteArray × Value) : nmCells (l ++ [x]) = nmCells l ++ [.string x.1, x.2] := by simp [nmCells]
theorem NmRow.keep {S : Nat → Prop} {w w' : World} {T : List TypeId} {base : Nat} {v : Value} {l : List Nm} (h : NmRow w base v l) (hk : Keeps S w w') (ho : Off S w T) (he : 9 ∉ T) (hv : ∀ g, v.ownBlock = some g → ¬ S g) : NmRow w' base v l := by
  obtain ⟨xs, h1, h2, h3⟩ := h
  exact ⟨xs, h1, own_keep h2 hk hv, fun x hx => own_off (h3 x hx) hk ho he⟩
theorem NmRow.below {w w' : World} {base : Nat} {v : Value} {l : List Nm} (h : NmRow w base v l) (hb : Below w.heap.size w w') : NmRow w' base v l := by
  obtain ⟨xs, h1, h2, h3⟩ := h
  exact ⟨xs, h1, own_below h2 hb, fun x hx => own_below (h3 x hx) hb⟩
theorem NmRow.has {w : World} {base : Nat} {v : Value} {l : List Nm} (h : NmRow w base v l) (s : ByteArray) : ∃ ys : List (ByteArray × Value), ys.length = l.length ∧ RowR w v ys.length 2 (nmCells ys) ∧ (ys.any fun x => decide (x.1 = s)) = hasN l s := by
  obtain ⟨xs, rfl, h2, h3⟩ := h
  refine ⟨xs.map nmPair, by simp, ?_, ?_⟩
  · have := RowR.of_own h2
    simpa using this
  · unfold hasN
    rw [List.any_map, List.any_map]
    rfl
theorem NmRow.shape {w : World} {base : Nat} {v : Value} {l : List Nm} (h : NmRow w base v l) : ∃ A cap, v = .slice A l.length cap := by
  obtain ⟨xs, rfl, h2, h3⟩ := h
  exact own_shape h2
/- Hosts: hsCells, as they are. -/
theorem hsCells_snoc (l : List Hs) (x : Hs) : hsCells (l ++ [x]) = hsCells l ++ [.string x.name, .bool x.net.a.v6, .int .u64 (x.net.a.hi : Int), .int .u64 (x.net.a.lo : Int), .int .u8 (x.net.bits : Int)] := by simp [hsCells]
/- Accepts. -/
def selCells (l : List Sel) : List Value := l.flatMap fun s => s.cells.toList
theorem selCells_snoc (l : List Sel) (x : Sel) : selCells (l ++ [x]) = selCells l ++ x.cells.toList := by simp [selCells]
def portCells (l : List (Nat × Nat)) : List Value := l.flatMap fun x => [Value.int .u16 (x.1 : Int), .int .u16 (x.2 : Int)]
theorem portCells_snoc (l : List (Nat × Nat)) (x : Nat × Nat) : portCells (l ++ [x]) = portCells l ++ [.int .u16 (x.1 : Int), .int .u16 (x.2 : Int)] := by simp [portCells]
structure AcV where
  a : Ac
  p : Value
  s : Value
  d : Value
  o : Value
structure AcMem (w : World) (base : Nat) (x : AcV) : Prop where
  p : w.ownsRow base 5 1 x.p x.a.protos.length (protoCells x.a.protos)
  s : w.ownsRow base 59 6 x.s x.a.src.length (selCells x.a.src)
  d : w.ownsRow base 59 6 x.d x.a.dst.length (selCells x.a.dst)
  o : w.ownsRow base 104 2 x.o x.a.ports.length (portCells x.a.ports)
def acCells (l : List AcV) : List Value := l.flatMap fun x => [x.p, x.s, x.d, x.o]
theorem acCells_snoc (l : List AcV) (x : AcV) : acCells (l ++ [x]) = acCells l ++ [x.p, x.s, x.d, x.o] := by simp [acCells]
def AcRow (w : World) (base : Nat) (v : Value) (l : List Ac) : Prop := ∃ xs : List AcV, xs.map (·.a) = l ∧ w.ownsRow base 57 4 v l.length (acCells xs) ∧ ∀ x ∈ xs, AcMem w base x
theorem AcRow.nil (w : World) (base : Nat) : AcRow w base (.slice none 0 0) [] := ⟨[], rfl, World.ownsRow_nil _ _ _ _, fun x hx => by cases hx⟩
theorem AcMem.keep {S : Nat → Prop} {w w' : World} {T : List TypeId} {base : Nat} {x : AcV} (h : AcMem w base x) (hk : Keeps S w w') (ho : Off S w T) (h1 : 5 ∉ T) (h2 : 59 ∉ T) (h3 : 104 ∉ T) : AcMem w' base x :=
  ⟨own_off h.p hk ho h1, own_off h.s hk ho h2, own_off h.d hk ho h2, own_off h.o hk ho h3⟩
theorem AcRow.keep {S : Nat → Prop} {w w' : World} {T : List TypeId} {base : Nat} {v : Value} {l : List Ac} (h : AcRow w base v l) (hk : Keeps S w w') (ho : Off S w T) (h1 : 5 ∉ T) (h2 : 59 ∉ T) (h3 : 104 ∉ T) (hv : ∀ g, v.ownBlock = some g → ¬ S g) : AcRow w' base v l := by
  obtain ⟨xs, e, ha, hb⟩ := h
  exact ⟨xs, e, own_keep ha hk hv, fun x hx => (hb x hx).keep hk ho h1 h2 h3⟩
theorem AcRow.shape {w : World} {base : Nat} {v : Value} {l : List Ac} (h : AcRow w base v l) : ∃ A cap, v = .slice A l.length cap := by
  obtain ⟨xs, rfl, h2, h3⟩ := h
  exact own_shape h2
/- Who was named, and where. -/
abbrev Us := Sel × Nat × Nat
def usCells (l : List (Us × ByteArray)) : List Value := l.flatMap fun x => x.1.1.cells.toList ++ [.string x.2, .int .i64 (x.1.2.1 : Int), .int .i64 (x.1.2.2 : Int)]
theorem usCells_snoc (l : List (Us × ByteArray)) (x : Us × ByteArray) : usCells (l ++ [x]) = usCells l ++ (x.1.1.cells.toList ++ [.string x.2, .int .i64 (x.1.2.1 : Int), .int .i64 (x.1.2.2 : Int)]) := by simp [usCells]
def UsRow (w : World) (base : Nat) (v : Value) (l : List Us) : Prop := ∃ xs : List (Us × ByteArray), xs.map (·.1) = l ∧ w.ownsRow base 91 9 v l.length (usCells xs)
theorem UsRow.nil (w : World) (base : Nat) : UsRow w base (.slice none 0 0) [] := ⟨[], rfl, World.ownsRow_nil _ _ _ _⟩
theorem UsRow.keep {S : Nat → Prop} {w w' : World} {base : Nat} {v : Value} {l : List Us} (h : UsRow w base v l) (hk : Keeps S w w') (hv : ∀ g, v.ownBlock = some g → ¬ S g) : UsRow w' base v l := by
  obtain ⟨xs, e, ha⟩ := h
  exact ⟨xs, e, own_keep ha hk hv⟩
theorem UsRow.shape {w : World} {base : Nat} {v : Value} {l : List Us} (h : UsRow w base v l) : ∃ A cap, v = .slice A l.length cap := by
  obtain ⟨xs, rfl, h2⟩ := h
  exact own_shape h2
theorem RowR.of_own' {w : World} {base size n m : Nat} {e : TypeId} {v : Value} {xs : List Value} (h : w.ownsRow base e size v n xs) (hm : m = n) : RowR w v m size xs := by subst hm; exact RowR.of_own h

theorem info_nm : (Tryz.prog.info? 46).map (fun i => (i.zero, i.size, i.bytes)) = some (some (.agg #[.string ⟨#[]⟩, .slice none 0 0]), 2, 40) := by kernel_rfl
theorem info_hs : (Tryz.prog.info? 53).map (fun i => (i.zero, i.size, i.bytes)) = some (some (.agg #[.string ⟨#[]⟩, .bool false, .int .u64 0, .int .u64 0, .int .u8 0]), 5, 48) := by kernel_rfl
theorem info_sel : (Tryz.prog.info? 59).map (fun i => (i.zero, i.size, i.bytes)) = some (some (.agg #[.int .u8 0, .string ⟨#[]⟩, .bool false, .int .u64 0, .int .u64 0, .int .u8 0]), 6, 56) := by kernel_rfl
theorem info_po : (Tryz.prog.info? 104).map (fun i => (i.zero, i.size, i.bytes)) = some (some (.agg #[.int .u16 0, .int .u16 0]), 2, 4) := by kernel_rfl
theorem info_ac : (Tryz.prog.info? 57).map (fun i => (i.zero, i.size, i.bytes)) = some (some (.agg #[.slice none 0 0, .slice none 0 0, .slice none 0 0, .slice none 0 0]), 4, 96) := by kernel_rfl
theorem info_us : (Tryz.prog.info? 91).map (fun i => (i.zero, i.size, i.bytes)) = some (some (.agg #[.int .u8 0, .string ⟨#[]⟩, .bool false, .int .u64 0, .int .u64 0, .int .u8 0, .string ⟨#[]⟩, .int .i64 0, .int .i64 0]), 9, 88) := by kernel_rfl

/- What a line's reading answers: a fault at a word, or what was read. -/
def LineR {α : Type} (o : Except Bad α) (n : Nat) (ok : α → Ending → Prop) (r : Ending) : Prop := match o with
  | .error e => r = PanicAt e.1 n e.2
  | .ok x => ok x r
theorem LineR.bad {α : Type} {o : Except Bad α} {n e i : Nat} {ok : α → Ending → Prop} (h : o = .error (e, i)) : LineR o n ok (PanicAt e n i) := by subst h; rfl
theorem LineR.good {α : Type} {o : Except Bad α} {n : Nat} {ok : α → Ending → Prop} {r : Ending} {x : α} (h : o = .ok x) (hr : ok x r) : LineR o n ok r := by subst h; exact hr
/- The same, with what may have been turned: less where there is a fault. -/
def OutR {α : Type} (S0 S : Nat → Prop) (w w' : World) (o : Except Bad α) (n : Nat) (ok : α → Ending → Prop) (r : Ending) : Prop := match o with
  | .error e => Keeps S0 w w' ∧ r = PanicAt e.1 n e.2
  | .ok x => Keeps S w w' ∧ ok x r
theorem OutR.bad {α : Type} {S0 S : Nat → Prop} {w w' : World} {o : Except Bad α} {n e i : Nat} {ok : α → Ending → Prop} (hk : Keeps S0 w w') (h : o = .error (e, i)) : OutR S0 S w w' o n ok (PanicAt e n i) := by subst h; exact ⟨hk, rfl⟩
theorem OutR.good {α : Type} {S0 S : Nat → Prop} {w w' : World} {o : Except Bad α} {n : Nat} {ok : α → Ending → Prop} {r : Ending} {x : α} (h : o = .ok x) (hk : Keeps S w w') (hr : ok x r) : OutR S0 S w w' o n ok r := by subst h; exact ⟨hk, hr⟩
theorem OutR.line {α : Type} {S0 S : Nat → Prop} {w w' : World} {o : Except Bad α} {n : Nat} {ok : α → Ending → Prop} {r : Ending} (h : OutR S0 S w w' o n ok r) (h0 : ∀ k, S0 k → S k) : Keeps S w w' ∧ LineR o n ok r := by
  cases o with
  | error e => exact ⟨h.1.mono fun k _ => h0 k, h.2⟩
  | ok x => exact h
theorem OutR.err {α : Type} {S0 S : Nat → Prop} {w w' : World} {o : Except Bad α} {n : Nat} {ok : α → Ending → Prop} {r : Ending} (h : OutR S0 S w w' o n ok r) (e : Bad) (he : o = .error e) : Keeps S0 w w' := by
  subst he
  exact h.1
end Go.Proofs.YtbiglifngfgffaaGreatDoor

/- A region that draws its order and whose last operation writes what the others read: S need not hold behind that one. -/
namespace Go.Proofs.YtbiglifngfgffaaGreatDoor

section
variable {P : Program} {ops : Array Oper} {Q : Exit → Act → World → Prop} {md : Region.Mode} {S : World → Prop} {E : Nat}

def wpAnyE (P : Program) (md : Region.Mode) (ops : Array Oper) (Q : Exit → Act → World → Prop) (S : World → Prop) (E : Nat) : Nat → Array Bool → Act → World → Prop
  | 0, l, a, w => Region.ready md ops l = [] ∧ Q .normal a w
  | m + 1, l, a, w => (Region.ready md ops l = [] → Q .normal a w) ∧
    ∀ i ∈ Region.ready md ops l, wpOp P ops Q i (fun a' w' => (i ≠ E → S w') ∧ wpAnyE P md ops Q S E m (l.setIfInBounds i true) a' w') a w
theorem wpAny_of_E : ∀ (m : Nat) (l : Array Bool) (a : Act) (w : World), wpAnyE P md ops Q S E m l a w → wpAny P md ops Q m l a w
  | 0, _, _, _, h => h
  | m + 1, _, _, _, h => ⟨h.1, fun i hi => wpOp_mono (fun a' w' h' => wpAny_of_E m _ a' w' h'.2) (h.2 i hi)⟩
theorem not_waits {l : Array Bool} {i j : Nat} {oj : Oper} (hu : l.getD i true = false) (hall : ∀ e ∈ oj.after, Region.binds md e = true → l.getD e.on false = true) : ∀ e ∈ oj.after, Region.binds md e = true → e.on ≠ i := by
  intro e he hb heq
  have h1 := hall e he hb
  rw [heq] at h1
  rcases Nat.lt_or_ge i l.size with h' | h'
  · simp [h'] at hu h1; rw [hu] at h1; cases h1
  · simp [Array.getElem?_eq_none h'] at h1
/- The last one waits for number i. -/
def waitsFor (md : Region.Mode) (ops : Array Oper) (E i : Nat) : Bool := ((ops[E]?).map fun o => o.after.any fun e => Region.binds md e && decide (e.on = i)).getD false
theorem wpAnyE_first {i : Nat} {oi : Oper} {v : Value} (hi : ops[i]? = some oi) (hsel : ∀ (j : Nat) (o : Oper) cs b, ops[j]? = some o → o.op ≠ .select cs b)
    (hQ : ∀ c a w, Q (.panic c) (a.put oi.dst v) w → Q (.panic c) a w) (hE : waitsFor md ops E i = true) (hiE : i ≠ E) :
    ∀ (m : Nat) (l : Array Bool) (a : Act) (w : World),
      (∀ j oj, ops[j]? = some oj → j ≠ i → l.getD j true = false → (∀ e ∈ oj.after, Region.binds md e = true → e.on ≠ i) → oi.apart ops oj = true) →
      i ∈ Region.ready md ops l → YieldsIf P ops S oi v a → S w →
      wpAnyE P md ops Q S E m (l.setIfInBounds i true) (a.put oi.dst v) w → wpAnyE P md ops Q S E (m + 1) l a w := by
  intro m
  induction m with
  | zero =>
    intro l a w _ hr hy hS H
    refine ⟨fun h => (by rw [h] at hr; cases hr), fun j hj => ?_⟩
    by_cases hji : j = i
    · subst hji; exact hy.wpOp hi hS ⟨fun _ => hS, H⟩
    · have := ready_mono hj hji
      rw [H.1] at this
      cases this
  | succ m ih =>
    intro l a w hfree hr hy hS H
    refine ⟨fun h => (by rw [h] at hr; cases hr), fun j hj => ?_⟩
    by_cases hji : j = i
    · subst hji; exact hy.wpOp hi hS ⟨fun _ => hS, H⟩
    · have h1 := H.2 j (ready_mono hj hji)
      obtain ⟨hjun, oj, hoj, hall⟩ := mem_ready.1 hj
      have hnot := not_waits (j := j) (mem_ready.1 hr).1 hall
      have hjE : j ≠ E := by
        rintro rfl
        unfold waitsFor at hE
        rw [hoj] at hE
        simp only [Option.map_some, Option.getD_some] at hE
        obtain ⟨e, he, h2⟩ := Array.any_eq_true'.1 hE
        simp only [Bool.and_eq_true, decide_eq_true_eq] at h2
        exact hnot e he h2.1 h2.2
      have h2 := wpOp_putIf hoj (hfree j oj hoj hji hjun hnot) (fun cs b => hsel i oi cs b hi) (fun cs b => hsel j oj cs b hoj) hQ hy h1
      have hfree' : ∀ k ok, ops[k]? = some ok → k ≠ i → (l.setIfInBounds j true).getD k true = false →
          (∀ e ∈ ok.after, Region.binds md e = true → e.on ≠ i) → oi.apart ops ok = true := fun k ok hk hki hun hno => by
        refine hfree k ok hk hki ?_ hno
        by_cases hjk : j = k
        · subst hjk; exact hjun
        · rw [getD_set_ne true hjk] at hun; exact hun
      refine wpOp_mono (fun a' w' h3 => ⟨h3.2.1, ih (l.setIfInBounds j true) a' w' hfree' (ready_mono hr (Ne.symm hji)) h3.1 (h3.2.1 hjE) ?_⟩) h2
      rw [Array.setIfInBounds_comm _ _ hji]
      exact h3.2.2
theorem wpAnyE_take {i : Nat} {oi : Oper} {v : Value} {m : Nat} {l : Array Bool} {a : Act} {w : World} (hi : ops[i]? = some oi)
    (hs : Region.noSelect ops = true) (hf : Region.free md ops l i = true) (hr : (Region.ready md ops l).contains i = true)
    (hQ : ∀ c a w, Q (.panic c) (a.put oi.dst v) w → Q (.panic c) a w) (hy : YieldsIf P ops S oi v a) (hS : S w) (hE : (waitsFor md ops E i && decide (i ≠ E)) = true)
    (h : wpAnyE P md ops Q S E m (l.setIfInBounds i true) (a.put oi.dst v) w) : wpAnyE P md ops Q S E (m + 1) l a w := by
  simp only [Bool.and_eq_true, decide_eq_true_eq] at hE
  exact wpAnyE_first hi (Region.noSelect_spec hs) hQ hE.1 hE.2 m l a w (Region.free_spec hi hf) (by simpa using hr) hy hS h
def AllReadyE (P : Program) (md : Region.Mode) (ops : Array Oper) (Q : Exit → Act → World → Prop) (S : World → Prop) (E : Nat) (m : Nat) (l : Array Bool) (a : Act) (w : World) (rs : List Nat) : Prop :=
  ∀ i ∈ rs, wpOp P ops Q i (fun a' w' => (i ≠ E → S w') ∧ wpAnyE P md ops Q S E m (l.setIfInBounds i true) a' w') a w
theorem AllReadyE.nil {m : Nat} {l : Array Bool} {a : Act} {w : World} : AllReadyE P md ops Q S E m l a w [] := fun _ h => by cases h
theorem AllReadyE.cons {m : Nat} {l : Array Bool} {a : Act} {w : World} {i : Nat} {o : Oper} {rs : List Nat} (ho : ops[i]? = some o)
    (h : ∀ K' : Act → World → Prop, Shut (∀ a w, (i ≠ E → S w) → ((i ≠ E → S w) → wpAnyE P md ops Q S E m (l.setIfInBounds i true) a w) → K' a w) → if Region.wanted o (yielded ops a.tmps) = true then Oper.wp P o a w K' Q else K' (a.put o.dst undef) w)
    (hs : AllReadyE P md ops Q S E m l a w rs) : AllReadyE P md ops Q S E m l a w (i :: rs) := fun j hj => by
  rcases List.mem_cons.1 hj with rfl | hj
  · exact wpOp_step ho (fun K' hK => h K' (fun a w hS hW => hK a w ⟨hS, hW hS⟩))
  · exact hs j hj
theorem wpAnyE_ready {rs : List Nat} {m : Nat} {l : Array Bool} {a : Act} {w : World} (hr : Region.ready md ops l = rs) (hne : rs ≠ [])
    (h : AllReadyE P md ops Q S E m l a w rs) : wpAnyE P md ops Q S E (m + 1) l a w := ⟨fun h0 => absurd (hr ▸ h0) hne, hr ▸ h⟩
theorem wpAnyE_done {m : Nat} {l : Array Bool} {a : Act} {w : World} (hr : Region.ready md ops l = []) (h : Q .normal a w) : wpAnyE P md ops Q S E m l a w := by
  cases m with
  | zero => exact ⟨hr, h⟩
  | succ m => exact ⟨fun _ => h, fun i hi => by rw [hr] at hi; cases hi⟩
theorem wp_region_E (E : Nat) (S : World → Prop) {id : Nat} {a : Act} {w : World} (hm : P.follows .mixedOrders = true) (hS : S w.drew)
    (h : S w.drew → wpAnyE P .any ops Q S E ops.size (Array.replicate ops.size false) a w.drew) : (Code.region id ops true).wp P Q a w :=
  wp_region_any hm (wpAny_of_E _ _ _ _ (h hS))
end
end Go.Proofs.YtbiglifngfgffaaGreatDoor
