/- Joined out of: PlN. -/
import Derived.Test.YtbiglifngfgffaaGreatDoorLaa
import Derived.Test.YtbiglifngfgffaaGreatDoorLaj
set_option linter.unusedVariables false
set_option linter.unusedSimpArgs false

/- A host's line (host): the walk. -/
namespace Go.Proofs.YtbiglifngfgffaaGreatDoor
open Go.RowKit
attribute [local go_sem ↓] Go.wp_at_zero Go.wp_at_succ

theorem hostP_eq {ws : List ByteArray} {told : List Hs} (hne : ws ≠ []) : hostP ws told = if 64 ≤ told.length then .error (198, 0) else match ws[1]? with
    | none => .error (190, ws.length)
    | some nm => if labelB nm = false then .error (191, 1) else if hasH told nm = true then .error (197, 1) else match ws[2]? with
      | none => .error (190, ws.length)
      | some e => if e ≠ W_eq then .error (190, 2) else match ws[3]? with
        | none => .error (190, ws.length)
        | some t => match preadL t.data.toList with
          | none => .error (192, 3)
          | some pf => if 4 < ws.length then .error (190, 4) else .ok ⟨nm, pf⟩ := by
  unfold hostP
  by_cases h : 64 ≤ told.length
  · rw [if_pos h, if_pos h]
  rw [if_neg h, if_neg h]
  match ws with
  | [] => exact absurd rfl hne
  | [a] => rfl
  | [a, nm] => rfl
  | [a, nm, e] => rfl
  | a :: nm :: e :: t :: r =>
    simp only [List.getElem?_cons_succ, List.getElem?_cons_zero]
    cases r with
    | nil => simp; cases preadL t.data.toList <;> rfl
    | cons s r => simp; cases preadL t.data.toList <;> rfl
theorem below_keeps {S : Nat → Prop} {w0 w w' : World} (h : Below w0.heap.size w0 w) (hk : Keeps S w w') (hS : ∀ k, S k → w0.heap.size ≤ k) : Below w0.heap.size w0 w' :=
  h.trans (hk.below hS h.size)
def HostOk (w : World) (b P n base : Nat) (lv uv lst : Value) (ws : List ByteArray) (told : List Hs) (pc : Array Value) (w' : World) (x : Hs) (r : Ending) : Prop :=
  r = .returned (.tuple #[]) ∧ ∃ k' lst', Rs w' b P k' n lv uv ws ∧ Blk w' P 26 (pc.setIfInBounds 2 lst') ∧ w'.ownsRow base 53 5 lst' (told ++ [x]).length (hsCells (told ++ [x])) ∧ ∀ g, lst'.ownBlock = some g → lst.ownBlock = some g ∨ w.heap.size ≤ g

set_option maxHeartbeats 8000000 in
set_option maxRecDepth 100000 in
theorem host_any {w0 w : World} (env : Env w0) (hE : Below w0.heap.size w0 w) {b P n : Nat} {lv uv lst : Value} {ws : List ByteArray} {told : List Hs} {pc : Array Value} (h : Rs w b P 1 n lv uv ws) (hP : Blk w P 26 pc) (hq : pc[2]? = some lst) (hN : w.ownsRow w0.heap.size 53 5 lst told.length (hsCells told)) (hbb : w0.heap.size ≤ b) :
    Calls Tryz.prog 59 #[.pointer (some ⟨b, 0, none⟩)] w fun r w' => OutR (fun k => k = b) (fun k => k = b ∨ k = P ∨ lst.ownBlock = some k) w w' (hostP ws told) n (HostOk w b P n w0.heap.size lv uv lst ws told pc w') r := by
  obtain ⟨A, cap, rfl⟩ := own_shape hN
  have hlen1 : 1 ≤ ws.length := by
    have := h.ne
    cases ws with
    | nil => exact absurd rfl this
    | cons x r => simp
  obtain ⟨T, hT⟩ : ∃ t, t = told.length := ⟨_, rfl⟩
  rw [← hT] at hq hN ⊢
  have hPb : P ≠ b := hP.ne_ h.blk (by decide)
  have c0 := (hP.cell 2).trans hq
  have c1 := h.blk.cell 2
  simp at c1
  have hroom := h.room (by omega) (by omega) T
  rw [show atW 1 ws = 0 by unfold atW; rw [if_pos hlen1]] at hroom
  obtain ⟨RES, hRES⟩ : ∃ r, r = hostP ws told := ⟨_, rfl⟩
  rw [← hRES]
  rw [hostP_eq h.ne, ← hT] at hRES
  have hbs : w0.heap.size ≤ w.heap.size := hE.size
  have HRoom := Lib.hid hroom
  have H := Lib.hid h
  have HP := Lib.hid hP
  have HN := Lib.hid hN
  have HRES := Lib.hid hRES
  have HT := Lib.hid hT
  have HE := Lib.hid hE
  have HEnv := Lib.hid env
  clear hroom h hP hN hRES hT hE env
  go_enter Tryz.func59, Tryz.ntmps59
  go_wp2_with fail
  go_at_call 91
  refine HRoom.out.mono ?_
  rintro r w1 ⟨h1, d1⟩
  by_cases hT64 : T < 64
  case neg =>
    rw [decide_eq_false hT64] at h1
    unfold UnlessR at h1
    subst h1
    unfold PanicAt
    exact ⟨rfl, OutR.bad (Keeps.of_below d1 fun k hk _ => hk) (by rw [HRES.out, if_pos (by omega)])⟩
  rw [decide_eq_true hT64] at h1
  unfold UnlessR at h1
  subst h1
  have H1 := Lib.hid (H.out.below d1)
  have HP1 := Lib.hid (HP.out.below d1 HP.out.lt)
  have HN1 := Lib.hid (own_below HN.out d1)
  have HK1 := Lib.hid (Keeps.of_below (S := fun x => x = b) d1 fun k hk _ => hk)
  have hR1 := HRES.out
  rw [if_neg (by omega)] at hR1
  have HR1 := Lib.hid hR1
  clear hR1 HRES HRoom d1 H HP c0 c1
  have hname := H1.out.name (by omega)
  unfold NameR at hname
  have HName := Lib.hid hname
  clear hname
  go_wp2_with fail
  go_at_call 92
  refine HName.out.mono ?_
  rintro r w2 ⟨⟨d2, e2⟩, h2⟩
  have HK2 := Lib.hid (HK1.out.trans d2)
  cases hs1 : ws[1]? with
  | none =>
    rw [hs1] at h2
    simp only at h2
    subst h2
    unfold PanicAt
    have hR := HR1.out
    rw [hs1] at hR
    exact ⟨rfl, OutR.bad (HK2.out) hR⟩
  | some nm =>
  rw [hs1] at h2
  simp only at h2
  have hR2 := HR1.out
  rw [hs1] at hR2
  simp only at hR2
  by_cases hlab : labelB nm = true
  case neg =>
    have hlf : labelB nm = false := by simpa using hlab
    rw [if_neg hlab] at h2
    subst h2
    unfold PanicAt
    rw [if_pos hlf] at hR2
    exact ⟨rfl, OutR.bad (HK2.out) hR2⟩
  rw [if_pos hlab] at h2
  subst h2
  rw [if_neg (by simp [hlab])] at hR2
  have HR2 := Lib.hid hR2
  have H2 := Lib.hid e2
  have HP2 := Lib.hid (HP1.out.keep d2 hPb)
  have OB1 : Off (fun x => x = b) w1 [81] := fun k hk => ⟨_, _, _, by subst hk; exact H1.out.blk, by simp⟩
  have HN2 := Lib.hid (own_off HN1.out d2 OB1 (by decide))
  clear hR2 HR1 HName HN1 HP1 H1 HK1 e2 d2 hlab OB1
  go_wp2_with fail
  have hB3 := Lib.hid (Blk.new w2 53 #[.string nm, .bool false, .int .u64 0, .int .u64 0, .int .u8 0])
  have hb3 := boxed w2 (.cells #[.string nm, .bool false, .int .u64 0, .int .u64 0, .int .u8 0] 53)
  have H3 := Lib.hid (H2.out.below hb3)
  have HP3 := Lib.hid (HP2.out.alloc (.cells #[.string nm, .bool false, .int .u64 0, .int .u64 0, .int .u8 0] 53))
  have HN3 := Lib.hid (own_below HN2.out hb3)
  have HK3 := Lib.hid (HK2.out.alloc (.cells #[.string nm, .bool false, .int .u64 0, .int .u64 0, .int .u8 0] 53))
  have hsz3 : w2.heap.size < (w2.alloc (.cells #[.string nm, .bool false, .int .u64 0, .int .u64 0, .int .u8 0] 53)).heap.size := by simp
  have hszb : w.heap.size ≤ w2.heap.size := HK2.out.size
  clear H2 HP2 HN2 HK2 hb3
  generalize w2.alloc (.cells #[.string nm, .bool false, .int .u64 0, .int .u64 0, .int .u8 0] 53) = w3 at hB3 H3 HP3 HN3 HK3 hsz3 ⊢
  generalize w2.heap.size = N at hB3 hsz3 hszb ⊢
  have hNb : N ≠ b := hB3.out.ne_ H3.out.blk (by decide)
  have hNP : N ≠ P := hB3.out.ne_ HP3.out (by decide)
  have HAN := Lib.hid fun g hg => (HN.out.lt g hg).2
  have hhas := hasHost_any (w := w3.drew) told (by have := HT.out; omega) _ (RowR.of_own' (show w3.drew.ownsRow _ _ _ _ _ _ from HN3.out) HT.out.symm) nm
  have x0 := (HP3.out.cell 2).trans hq
  have x1 := hB3.out.cell 0
  have x2 := H3.out.blk.cell 2
  simp at x1 x2
  have hun := fun W (hW : Rs W b P (1 + 1) n lv uv ws) (is : Bool) => hW.unless (by omega) (by omega) is 197
  rw [atW_take (by have := (List.getElem?_eq_some_iff.1 hs1).1; omega)] at hun
  have HHas : RowKit.Hid (Calls Tryz.prog 63 #[.slice A T cap, .string nm] w3.drew (Got (.bool (hasH told nm)) w3.drew)) := Lib.hid hhas
  have HUn := Lib.hid hun
  clear hhas hun
  by_cases hh : hasH told nm = true
  · rw [hh] at HHas
    have hR := HR2.out
    rw [if_pos hh] at hR
    have HR := Lib.hid hR
    have HUn' : RowKit.Hid (∀ (W : World), Rs W b P (1 + 1) n lv uv ws → Calls Tryz.prog 30 #[.pointer (some ⟨b, 0, none⟩), .bool false, .int .i64 197] W fun r w' => r = PanicAt 197 n 1 ∧ Below W.heap.size W w') := Lib.hid fun W hW => HUn.out W hW false
    clear hR hh HR2 HUn
    refine wp_region_held_drew (S := (fun w' => w'.cell? ⟨b, 2, none⟩ = some (.pointer (some ⟨P, 0, none⟩)) ∧ w'.cell? ⟨P, 2, none⟩ = some (.slice A T cap) ∧ w'.cell? ⟨N, 0, none⟩ = some (.string nm))) (by kernel_rfl) (⟨x2, x0, x1⟩) (fun hHeld => ?_)
    refine tH 0 ?_; try simp only [Ap]
    refine tH 1 ?_; try simp only [Ap]
    refine tH 2 ?_; try simp only [Ap]
    refine tH 3 ?_; try simp only [Ap]
    refine tH 4 ?_; try simp only [Ap]
    refine tH 5 ?_; try simp only [Ap]
    refine tH 6 ?_; try simp only [Ap]
    refine tH 7 ?_; try simp only [Ap]
    refine tH 8 ?_; try simp only [Ap]
    refine tH 9 ?_; try simp only [Ap]
    refine wpAnyH_ready (rs := [10]) (by kernel_rfl) (by simp) ?_
    refine AllReadyH.cons rfl (fun K hK => ?_) AllReadyH.nil
    go_simp
    refine HHas.out.mono ?_
    rintro r w4 ⟨rfl, d4⟩
    have e4 : Below w3.heap.size w3 w4 := ⟨d4.os, d4.tape, d4.output, d4.size, d4.block⟩
    have y0 := ((HP3.out.below e4 HP3.out.lt).cell 2).trans hq
    have y1 := (hB3.out.below e4 hB3.out.lt).cell 0
    have y2 := (H3.out.below e4).blk.cell 2
    simp at y1 y2
    refine hK.out _ _ (⟨y2, y0, y1⟩) (fun hHeld => ?_)
    clear hK K
    try simp only [Ap]
    refine tH 11 ?_; try simp only [Ap]
    refine wpAnyH_ready (rs := [12]) (by kernel_rfl) (by simp) ?_
    refine AllReadyH.cons rfl (fun K hK => ?_) AllReadyH.nil
    go_simp
    refine (HUn'.out _ (H3.out.below e4)).mono ?_
    rintro r w5 ⟨rfl, d5⟩
    unfold PanicAt
    exact ⟨rfl, OutR.bad (((HK3.out.trans (Keeps.of_below e4 fun k hk _ => hk)).trans (Keeps.of_below d5 fun k hk _ => hk))) HR.out⟩
  have hhf : hasH told nm = false := by simpa using hh
  rw [hhf] at HHas
  have hR := HR2.out
  rw [if_neg hh] at hR
  have HR := Lib.hid hR
  have HUn' : RowKit.Hid (∀ (W : World), Rs W b P (1 + 1) n lv uv ws → Calls Tryz.prog 30 #[.pointer (some ⟨b, 0, none⟩), .bool true, .int .i64 197] W fun r w' => r = .returned (.tuple #[]) ∧ Below W.heap.size W w') := Lib.hid fun W hW => HUn.out W hW true
  clear hR hh hhf HR2 HUn
  refine wp_region_held_drew (S := (fun w' => w'.cell? ⟨b, 2, none⟩ = some (.pointer (some ⟨P, 0, none⟩)) ∧ w'.cell? ⟨P, 2, none⟩ = some (.slice A T cap) ∧ w'.cell? ⟨N, 0, none⟩ = some (.string nm))) (by kernel_rfl) (⟨x2, x0, x1⟩) (fun hHeld => ?_)
  refine tH 0 ?_; try simp only [Ap]
  refine tH 1 ?_; try simp only [Ap]
  refine tH 2 ?_; try simp only [Ap]
  refine tH 3 ?_; try simp only [Ap]
  refine tH 4 ?_; try simp only [Ap]
  refine tH 5 ?_; try simp only [Ap]
  refine tH 6 ?_; try simp only [Ap]
  refine tH 7 ?_; try simp only [Ap]
  refine tH 8 ?_; try simp only [Ap]
  refine tH 9 ?_; try simp only [Ap]
  refine wpAnyH_ready (rs := [10]) (by kernel_rfl) (by simp) ?_
  refine AllReadyH.cons rfl (fun K hK => ?_) AllReadyH.nil
  go_simp
  refine HHas.out.mono ?_
  rintro r w4 ⟨rfl, d4⟩
  have e4 : Below w3.heap.size w3 w4 := ⟨d4.os, d4.tape, d4.output, d4.size, d4.block⟩
  have y0 := ((HP3.out.below e4 HP3.out.lt).cell 2).trans hq
  have y1 := (hB3.out.below e4 hB3.out.lt).cell 0
  have y2 := (H3.out.below e4).blk.cell 2
  simp at y1 y2
  refine hK.out _ _ (⟨y2, y0, y1⟩) (fun hHeld => ?_)
  clear hK K
  try simp only [Ap]
  refine tH 11 ?_; try simp only [Ap]
  refine wpAnyH_ready (rs := [12]) (by kernel_rfl) (by simp) ?_
  refine AllReadyH.cons rfl (fun K hK => ?_) AllReadyH.nil
  go_simp
  refine (HUn'.out _ (H3.out.below e4)).mono ?_
  rintro r w5 ⟨rfl, d5⟩
  have e5 := after e4 d5
  have z0 := ((HP3.out.below e5 HP3.out.lt).cell 2).trans hq
  have z1 := (hB3.out.below e5 hB3.out.lt).cell 0
  have z2 := (H3.out.below e5).blk.cell 2
  simp at z1 z2
  refine hK.out _ _ (⟨z2, z0, z1⟩) (fun hHeld => ?_)
  clear hK K
  try simp only [Ap]
  refine wpAnyH_done (by kernel_rfl) ?_ _
  have H5 := Lib.hid (H3.out.below e5)
  have HP5 := Lib.hid (HP3.out.below e5 HP3.out.lt)
  have HB5 := Lib.hid (hB3.out.below e5 hB3.out.lt)
  have HN5 := Lib.hid (own_below HN3.out e5)
  have HK5 := Lib.hid (HK3.out.trans (Keeps.of_below e5 fun k hk _ => hk))
  have hsz5 : w3.heap.size ≤ w5.heap.size := e5.size
  clear H3 HP3 hB3 HN3 HK3 e4 e5 d5 d4 y0 y1 y2 z0 z1 z2 x0 x1 x2 hHeld HHas HUn'
  have hmust := H5.out.must (by have := (List.getElem?_eq_some_iff.1 hs1).1; omega) W_eq
  unfold MustR at hmust
  have HMust : RowKit.Hid (Calls Tryz.prog 93 #[.pointer (some ⟨b, 0, none⟩), .string ⟨#[61]⟩] w5 _) := Lib.hid hmust
  clear hmust
  go_wp2_with fail
  go_at_call 93
  refine HMust.out.mono ?_
  rintro r w6 ⟨⟨d6, e6⟩, h6⟩
  have HK6 := Lib.hid (HK5.out.trans d6)
  have hR3 := HR.out
  cases hs2 : ws[2]? with
  | none =>
    rw [show 1 + 1 = 2 from rfl, hs2] at h6
    simp only at h6
    subst h6
    unfold PanicAt
    rw [hs2] at hR3
    exact ⟨rfl, OutR.bad (HK6.out) hR3⟩
  | some eq =>
  rw [show 1 + 1 = 2 from rfl, hs2] at h6
  rw [hs2] at hR3
  simp only at h6 hR3
  by_cases heq : eq = W_eq
  case neg =>
    rw [if_neg heq] at h6
    subst h6
    unfold PanicAt
    rw [if_pos heq] at hR3
    exact ⟨rfl, OutR.bad (HK6.out) hR3⟩
  rw [if_pos heq] at h6
  rw [if_neg (by simp [heq])] at hR3
  subst h6
  have hlen3 : 3 ≤ ws.length := by have := (List.getElem?_eq_some_iff.1 hs2).1; omega
  have HR6 := Lib.hid hR3
  have H6 := Lib.hid e6
  have HP6 := Lib.hid (HP5.out.keep d6 hPb)
  have HB6 := Lib.hid (HB5.out.keep d6 hNb)
  have OB5 : Off (fun x => x = b) w5 [81] := fun k hk => ⟨_, _, _, by subst hk; exact H5.out.blk, by simp⟩
  have HN6 := Lib.hid (own_off HN5.out d6 OB5 (by decide))
  clear HMust hR3 HR HK5 HP5 HB5 HN5 H5 d6 e6 hs1 hs2 heq OB5
  have htake := H6.out.take hlen3
  unfold TakeR at htake
  have HTake := Lib.hid htake
  clear htake
  go_wp2_with fail
  go_at_call 29
  refine HTake.out.mono ?_
  rintro r w7 ⟨⟨d7, e7⟩, h7⟩
  have HK7 := Lib.hid (HK6.out.trans d7)
  have hR7 := HR6.out
  cases hs3 : ws[3]? with
  | none =>
    rw [show 1 + 1 + 1 = 3 from rfl, hs3] at h7
    simp only at h7
    subst h7
    unfold PanicAt
    rw [hs3] at hR7
    exact ⟨rfl, OutR.bad (HK7.out) hR7⟩
  | some t =>
  rw [show 1 + 1 + 1 = 3 from rfl, hs3] at h7
  rw [hs3] at hR7
  simp only at h7 hR7
  subst h7
  have hlen4 : 3 < ws.length := (List.getElem?_eq_some_iff.1 hs3).1
  have hts : t.size ≤ 2000000 := H6.out.sizes t (List.mem_of_getElem? hs3)
  have H7 := Lib.hid e7
  have HP7 := Lib.hid (HP6.out.keep d7 hPb)
  have HB7 := Lib.hid (HB6.out.keep d7 hNb)
  have OB6 : Off (fun x => x = b) w6 [81] := fun k hk => ⟨_, _, _, by subst hk; exact H6.out.blk, by simp⟩
  have HN7 := Lib.hid (own_off HN6.out d7 OB6 (by decide))
  have hE7 := below_keeps HE.out HK7.out (fun k hk => by subst hk; exact hbb)
  have hrd := readPrefix_any (HEnv.out.below hE7) t hts
  clear HTake HR6 HK6 HP6 HB6 HN6 H6 d7 e7 hs3 OB6 hE7
  cases hp : preadL t.data.toList with
  | none =>
    rw [hp] at hrd hR7
    have HRd : RowKit.Hid (Calls Tryz.prog 95 #[.string t] w7 (Got (.tuple #[.agg #[.bool false, .int .u64 0, .int .u64 0, .int .u8 0], .int .i64 8]) w7)) := Lib.hid hrd
    have HR7 := Lib.hid hR7
    clear hrd hR7 hp
    go_upto_region 5 with (go_at_call 95; (with_reducible refine HRd.out.mono ?_); rintro r w8 ⟨rfl, d8⟩)
    have d9 := after d8 (boxed w8 (.cells #[.bool false, .int .u64 0, .int .u64 0, .int .u8 0] 51))
    have hun := (H7.out.below d9).unless (by omega) (by omega) false 192
    rw [show atW (1 + 1 + 1 + 1) ws = 3 from atW_take hlen4] at hun
    have HUn : RowKit.Hid (Calls Tryz.prog 30 #[.pointer (some ⟨b, 0, none⟩), .bool false, .int .i64 192] (w8.alloc (.cells #[.bool false, .int .u64 0, .int .u64 0, .int .u8 0] 51)) fun r w' => r = PanicAt 192 n 3 ∧ Below _ _ w') := Lib.hid hun
    have HD := Lib.hid d9
    clear hun d9 d8
    go_wp2_with (go_at_call 30; (with_reducible refine HUn.out.mono ?_); rintro r w9 ⟨rfl, d9⟩; unfold PanicAt)
    exact ⟨rfl, OutR.bad ((HK7.out.trans (Keeps.of_below (after HD.out d9) fun k hk _ => hk))) HR7.out⟩
  | some pf =>
  obtain ⟨⟨a1, a2, a3⟩, a4⟩ := pf
  rw [hp] at hrd hR7
  have HRd : RowKit.Hid (Calls Tryz.prog 95 #[.string t] w7 (Got (.tuple #[.agg #[.bool a1, .int .u64 (a2 : Int), .int .u64 (a3 : Int), .int .u8 (a4 : Int)], .int .i64 0]) w7)) := Lib.hid hrd
  have HR7 := Lib.hid hR7
  clear hrd hR7 hp
  go_upto_region 5 with (go_at_call 95; (with_reducible refine HRd.out.mono ?_); rintro r w8 ⟨rfl, d8⟩)
  have d9 := after d8 (boxed w8 (.cells #[.bool a1, .int .u64 (a2 : Int), .int .u64 (a3 : Int), .int .u8 (a4 : Int)] 51))
  have hM9 := Blk.new w8 51 #[.bool a1, .int .u64 (a2 : Int), .int .u64 (a3 : Int), .int .u8 (a4 : Int)]
  have hMs : w8.heap.size < (w8.alloc (.cells #[.bool a1, .int .u64 (a2 : Int), .int .u64 (a3 : Int), .int .u8 (a4 : Int)] 51)).heap.size := by simp
  have hM8 := d8.size
  generalize w8.alloc (.cells #[.bool a1, .int .u64 (a2 : Int), .int .u64 (a3 : Int), .int .u8 (a4 : Int)] 51) = w9 at d9 hM9 hMs ⊢
  generalize w8.heap.size = M at hM9 hMs hM8 ⊢
  have H9 := Lib.hid (H7.out.below d9)
  have HP9 := Lib.hid (HP7.out.below d9 HP7.out.lt)
  have HB9 := Lib.hid (HB7.out.below d9 HB7.out.lt)
  have HN9 := Lib.hid (own_below HN7.out d9)
  have HK9 := Lib.hid (HK7.out.trans (Keeps.of_below d9 fun k hk _ => hk))
  have HM9 := Lib.hid hM9
  have hun := H9.out.unless (by omega) (by omega) true 192
  have HUn : RowKit.Hid (Calls Tryz.prog 30 #[.pointer (some ⟨b, 0, none⟩), .bool true, .int .i64 192] w9 fun r w' => r = .returned (.tuple #[]) ∧ Below _ _ w') := Lib.hid hun
  clear hun d9 d8 hM9 H7 HP7 HB7 HN7 HK7
  go_upto_region 6 with (go_at_call 30; (with_reducible refine HUn.out.mono ?_); rintro r w10 ⟨rfl, d10⟩)
  have H10 := Lib.hid (H9.out.below d10)
  have HP10 := Lib.hid (HP9.out.below d10 HP9.out.lt)
  have HB10 := Lib.hid (HB9.out.below d10 HB9.out.lt)
  have HM10 := Lib.hid (HM9.out.below d10 HM9.out.lt)
  have HN10 := Lib.hid (own_below HN9.out d10)
  have HK10 := Lib.hid (HK9.out.trans (Keeps.of_below d10 fun k hk _ => hk))
  have hsz10 : w.heap.size ≤ w10.heap.size := HK10.out.size
  clear HUn H9 HP9 HB9 HM9 HN9 HK9 d10
  have m0 := HM10.out.cell 0
  have m1 := HM10.out.cell 1
  have m2 := HM10.out.cell 2
  have m3 := HM10.out.cell 3
  have b1 := HB10.out.cell 1
  have b2 := HB10.out.cell 2
  have b3 := HB10.out.cell 3
  have b4 := HB10.out.cell 4
  have z1 := HB10.out.frozen 1
  have z2 := HB10.out.frozen 2
  have z3 := HB10.out.frozen 3
  have z4 := HB10.out.frozen 4
  simp at m0 m1 m2 m3 b1 b2 b3 b4
  go_upto_region 7 with fail
  obtain ⟨w11, hw11⟩ : ∃ w11, w11 = (((w10.setCell ⟨N, 1, none⟩ (.bool a1)).setCell ⟨N, 2, none⟩ (.int .u64 (a2 : Int))).setCell ⟨N, 3, none⟩ (.int .u64 (a3 : Int))).setCell ⟨N, 4, none⟩ (.int .u8 (a4 : Int)) := ⟨_, rfl⟩
  have HB11 : Blk w11 N 53 #[.string nm, .bool a1, .int .u64 (a2 : Int), .int .u64 (a3 : Int), .int .u8 (a4 : Int)] := by
    rw [hw11]
    exact (((HB10.out.set_ 1 (.bool a1)).set_ 2 (.int .u64 (a2 : Int))).set_ 3 (.int .u64 (a3 : Int))).set_ 4 (.int .u8 (a4 : Int))
  have K11 : Keeps (fun x => x = N) w10 w11 := by
    rw [hw11]
    exact ((((Keeps.refl (fun x => x = N) w10).setCell (p := ⟨N, 1, none⟩) (Or.inl rfl) _).setCell (p := ⟨N, 2, none⟩) (Or.inl rfl) _).setCell (p := ⟨N, 3, none⟩) (Or.inl rfl) _).setCell (p := ⟨N, 4, none⟩) (Or.inl rfl) _
  rw [← hw11]
  clear hw11 m0 m1 m2 m3 b1 b2 b3 b4 z1 z2 z3 z4
  have O11 : Off (fun x => x = N) w10 [53] := fun k hk => ⟨_, _, _, by subst hk; exact HB10.out, by simp⟩
  have H11 := Lib.hid (H10.out.off K11 O11 (by decide) (by decide))
  have HP11 := Lib.hid (HP10.out.off K11 O11 (by decide))
  have HN11 := Lib.hid (own_keep HN10.out K11 fun g hg e => by have := HAN.out g hg; omega)
  have HB11 := Lib.hid HB11
  have HK11 : RowKit.Hid (Keeps (fun k => k = b) w w11) := Lib.hid (((HK10.out.mono (T := fun x => x = b ∨ x = N) fun k _ hk => Or.inl hk).trans (K11.mono fun k _ hk => Or.inr hk)).mono fun k hk hs => hs.elim id fun e => absurd hk (by omega))
  have hsz11 : w.heap.size ≤ w11.heap.size := HK11.out.size
  clear H10 HP10 HB10 HM10 HN10 HK10 K11 O11 hMs hM8
  have hmore := Lib.hid H11.out.more
  by_cases h4 : 4 < ws.length
  · rw [show decide (1 + 1 + 1 + 1 < ws.length) = true from decide_eq_true h4] at hmore
    have hR := HR7.out
    rw [if_pos h4] at hR
    have HR := Lib.hid hR
    clear hR HR7
    obtain ⟨s4, hs4⟩ : ∃ s, ws[4]? = some s := ⟨_, List.getElem?_eq_getElem h4⟩
    go_upto_region 8 with (go_at_call 94; (with_reducible refine hmore.out.mono ?_); rintro r w12 ⟨rfl, d12⟩)
    have htake := (H11.out.below d12).take (by omega)
    unfold TakeR at htake
    rw [show 1 + 1 + 1 + 1 = 4 from rfl, hs4] at htake
    have HTake : RowKit.Hid (Calls Tryz.prog 29 #[.pointer (some ⟨b, 0, none⟩)] w12 fun r w' => (Keeps (fun x => x = b) w12 w' ∧ Rs w' b P (4 + 1) n lv uv ws) ∧ r = .returned (.string s4)) := Lib.hid htake
    have HK12 := Lib.hid (HK11.out.trans (Keeps.of_below d12 fun k hk _ => hk))
    clear htake d12 HK11 H11
    go_upto_region 9 with (go_at_call 29; (with_reducible refine HTake.out.mono ?_); rintro r w13 ⟨⟨d13, e13⟩, rfl⟩)
    have hwr := e13.wrong (by omega) (by omega) 190
    rw [atW_take h4] at hwr
    have HWr : RowKit.Hid (Calls Tryz.prog 61 #[.pointer (some ⟨b, 0, none⟩), .int .i64 190] w13 fun r w' => r = PanicAt 190 n 4 ∧ Below _ _ w') := Lib.hid hwr
    have HK13 := Lib.hid (HK12.out.trans d13)
    clear hwr d13 e13 HK12
    go_wp2_with (go_at_call 61; (with_reducible refine HWr.out.mono ?_); rintro r w14 ⟨rfl, d14⟩; unfold PanicAt)
    exact ⟨rfl, OutR.bad (HK13.out.trans (Keeps.of_below d14 fun k hk _ => hk)) HR.out⟩
  rw [show decide (1 + 1 + 1 + 1 < ws.length) = false from decide_eq_false h4] at hmore
  have hR := HR7.out
  rw [if_neg h4] at hR
  have HR := Lib.hid hR
  clear hR HR7
  go_upto_region 10 with (go_at_call 94; (with_reducible refine hmore.out.mono ?_); rintro r w12 ⟨rfl, d12⟩)
  have H12 := Lib.hid (H11.out.below d12)
  have HP12 := Lib.hid (HP11.out.below d12 HP11.out.lt)
  have HB12 := Lib.hid (HB11.out.below d12 HB11.out.lt)
  have HN12 := Lib.hid (own_below HN11.out d12)
  have HK12 := Lib.hid (HK11.out.trans (Keeps.of_below d12 fun k hk _ => hk))
  have hsz12 := HK12.out.size
  clear hmore H11 HP11 HB11 HN11 HK11 d12
  obtain ⟨j0, hj, hj0, hj1, hj2⟩ := info_parts info_hs
  have x0 := (HP12.out.cell 2).trans hq
  have x2 := H12.out.blk.cell 2
  have u0 := HB12.out.cell 0
  have u1 := HB12.out.cell 1
  have u2 := HB12.out.cell 2
  have u3 := HB12.out.cell 3
  have u4 := HB12.out.cell 4
  simp at x2 u0 u1 u2 u3 u4
  obtain ⟨w14, hw14⟩ : ∃ x, x = (w12.alloc (.cells #[.string nm, .bool a1, .int .u64 (a2 : Int), .int .u64 (a3 : Int), .int .u8 (a4 : Int)] 53)).drew := ⟨_, rfl⟩
  have HOX : RowKit.Hid (w14.ownsRow w0.heap.size 53 5 (.slice A T cap) T (hsCells told)) := Lib.hid (by rw [hw14]; exact HN12.out.alloc _)
  have HNew : RowKit.Hid (∀ j u, [.string nm, .bool a1, .int .u64 (a2 : Int), .int .u64 (a3 : Int), .int .u8 (a4 : Int)][j]? = some u → w14.cell? ((⟨w12.heap.size, 0, none⟩ : Addr).add j) = some u) := Lib.hid (by rw [hw14]; exact cells_new w12 [.string nm, .bool a1, .int .u64 (a2 : Int), .int .u64 (a3 : Int), .int .u8 (a4 : Int)] 53)
  have HPd : RowKit.Hid (Blk w14 P 26 pc) := Lib.hid (by rw [hw14]; exact HP12.out.alloc _)
  have HNd : RowKit.Hid (Blk w14 N 53 #[.string nm, .bool a1, .int .u64 (a2 : Int), .int .u64 (a3 : Int), .int .u8 (a4 : Int)]) := Lib.hid (by rw [hw14]; exact HB12.out.alloc _)
  have HRd2 : RowKit.Hid (Rs w14 b P (1 + 1 + 1 + 1) n lv uv ws) := Lib.hid (by rw [hw14]; exact ⟨(H12.out.alloc _).blk, (H12.out.alloc _).row, H12.out.ne, H12.out.len, H12.out.sizes⟩)
  have HKd : RowKit.Hid (Keeps (fun k => k = b ∨ k = P ∨ (Value.slice A T cap).ownBlock = some k) w w14) := Lib.hid (by rw [hw14]; exact ((HK12.out.mono fun k _ hk => Or.inl hk).alloc _).drew)
  have hs14 : w14.heap.size = w12.heap.size + 1 := by rw [hw14]; simp
  have y0 := (HPd.out.cell 2).trans hq
  have y2 := HRd2.out.blk.cell 2
  have v0 := HNd.out.cell 0
  have v1 := HNd.out.cell 1
  have v2 := HNd.out.cell 2
  have v3 := HNd.out.cell 3
  have v4 := HNd.out.cell 4
  simp at y2 v0 v1 v2 v3 v4
  have HNA : RowKit.Hid (some N ≠ (Value.slice A T cap).ownBlock) := Lib.hid fun e => by have := HAN.out N e.symm; omega
  rw [hw14] at HOX HNew HPd HNd y0 y2 v0 v1 v2 v3 v4
  refine wp_region_E 16 (fun w' => w'.cell? ⟨b, 2, none⟩ = some (.pointer (some ⟨P, 0, none⟩)) ∧ w'.cell? ⟨P, 2, none⟩ = some (.slice A T cap) ∧ w'.cell? ⟨N, 0, none⟩ = some (.string nm) ∧ w'.cell? ⟨N, 1, none⟩ = some (.bool a1) ∧ w'.cell? ⟨N, 2, none⟩ = some (.int .u64 (a2 : Int)) ∧ w'.cell? ⟨N, 3, none⟩ = some (.int .u64 (a3 : Int)) ∧ w'.cell? ⟨N, 4, none⟩ = some (.int .u8 (a4 : Int))) (by kernel_rfl) (⟨x2, x0, u0, u1, u2, u3, u4⟩) (fun hHeld => ?_)
  refine tE 0 ?_; try simp only [Ap]
  refine tE 1 ?_; try simp only [Ap]
  refine tE 2 ?_; try simp only [Ap]
  refine tE 3 ?_; try simp only [Ap]
  refine tE 4 ?_; try simp only [Ap]
  refine tE 5 ?_; try simp only [Ap]
  refine tE 6 ?_; try simp only [Ap]
  refine tE 7 ?_; try simp only [Ap]
  refine tE 8 ?_; try simp only [Ap]
  refine tE 9 ?_; try simp only [Ap]
  refine tE 10 ?_; try simp only [Ap]
  refine tE 11 ?_; try simp only [Ap]
  refine wpAnyE_ready (rs := [12]) (by kernel_rfl) (by simp) ?_
  refine AllReadyE.cons rfl (fun K hK => ?_) AllReadyE.nil
  go_simp
  skip
  refine hK.out _ _ (fun _ => ⟨y2, y0, v0, v1, v2, v3, v4⟩) (fun hHeld => ?_)
  have hHeld := hHeld (by decide)
  clear hK K
  try simp only [Ap]
  refine wpAnyE_ready (rs := [13]) (by kernel_rfl) (by simp) ?_
  refine AllReadyE.cons rfl (fun K hK => ?_) AllReadyE.nil
  refine step_append_lies _ (by rfl) _ _ _ (by rfl) w0.heap.size 53 j0 (.agg #[.string ⟨#[]⟩, .bool false, .int .u64 0, .int .u64 0, .int .u8 0]) 5 48 Tryz.underlying23 hj hj0 hj1 hj2 rfl (by decide) _ T _ (by rfl) HOX.out ⟨w12.heap.size, 0, none⟩ 1 1 [.string nm, .bool a1, .int .u64 (a2 : Int), .int .u64 (a3 : Int), .int .u8 (a4 : Int)] (by rfl) rfl HNew.out (by intro u hu; simp at hu; rcases hu with rfl | rfl | rfl | rfl | rfl <;> rfl) (by decide) (by unfold maxLen; omega) (by omega) (by simp; omega) (w12.heap.size + 1) (by simp) ?_
  intro g' cap' w15 hown' hgrow hat hglt
  have BP := Lib.hid (HPd.out.off (Keeps.row hgrow) (ownOff HOX.out) (by decide))
  have BN10 := HNd.out.grown hgrow HNA.out
  have p0 := (BP.out.cell 2).trans hq
  have pz := BP.out.frozen 2
  have n0 := BN10.cell 0
  have n1 := BN10.cell 1
  have n2 := BN10.cell 2
  have n3 := BN10.cell 3
  have n4 := BN10.cell 4
  rw [← hw14] at hgrow HOX
  have R15 := Lib.hid (HRd2.out.off (Keeps.row hgrow) (ownOff HOX.out) (by decide) (by decide))
  have p2 := R15.out.blk.cell 2
  simp at n0 n1 n2 n3 n4 p2
  have Hown := Lib.hid hown'
  have Hgrow := Lib.hid hgrow
  have Hat := Lib.hid hat
  clear hown' hgrow hat hglt BN10
  refine hK.out _ _ (fun _ => ⟨p2, p0, n0, n1, n2, n3, n4⟩) (fun hHeld => ?_)
  have hHeld := hHeld (by decide)
  clear hK K
  try simp only [Ap]
  refine wpAnyE_ready (rs := [14]) (by kernel_rfl) (by simp) ?_
  refine AllReadyE.cons rfl (fun K hK => ?_) AllReadyE.nil
  go_simp
  refine hK.out _ _ (fun _ => hHeld) (fun hHeld => ?_)
  have hHeld := hHeld (by decide)
  clear hK K
  try simp only [Ap]
  refine tE 15 ?_; try simp only [Ap]
  refine wpAnyE_ready (rs := [16]) (by kernel_rfl) (by simp) ?_
  refine AllReadyE.cons rfl (fun K hK => ?_) AllReadyE.nil
  go_simp
  refine hK.out _ _ (fun h => absurd rfl h) (fun _ => ?_)
  clear hK K hHeld
  try simp only [Ap]
  refine wpAnyE_done (by kernel_rfl) ?_
  go_wp2_with fail
  have K2 := (Keeps.grown HKd.out Hgrow.out fun k hk => Or.inl (Or.inr (Or.inr hk))).setCell (p := ⟨P, 2, none⟩) (Or.inl (Or.inr (Or.inl rfl))) (.slice (some ⟨g', 0, none⟩) (T + 1) cap')
  have KQ := (Keeps.refl (fun x => x = P) w15).setCell (p := ⟨P, 2, none⟩) (Or.inl rfl) (.slice (some ⟨g', 0, none⟩) (T + 1) cap')
  have OQ : Off (fun x => x = P) w15 [26] := fun k hk => ⟨_, _, _, by subst hk; exact BP.out, by simp⟩
  have R2 := R15.out.off KQ OQ (by decide) (by decide)
  have B2 : Blk (w15.setCell ⟨P, 2, none⟩ (.slice (some ⟨g', 0, none⟩) (T + 1) cap')) P 26 (pc.setIfInBounds 2 (.slice (some ⟨g', 0, none⟩) (T + 1) cap')) := BP.out.set_ 2 _
  refine ⟨rfl, _, results_none rfl _ _ _, OutR.good HR.out K2 ⟨rfl, _, _, R2, B2, ?_, ?_⟩⟩
  · rw [List.length_append, ← HT.out, hsCells_snoc]
    exact own_off Hown.out KQ OQ (by decide)
  · intro g hg
    have hgg : some g' = some g := hg
    injection hgg with hgg
    rcases Hat.out with h | h
    · exact Or.inl (hgg ▸ h)
    · exact Or.inr (by omega)
end Go.Proofs.YtbiglifngfgffaaGreatDoor
