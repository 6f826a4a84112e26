/- Joined out of: PlP. -/
import Derived.Test.YtbiglifngfgffaaGreatDoorLaa
import Derived.Test.YtbiglifngfgffaaGreatDoorLal
set_option linter.unusedVariables false
set_option linter.unusedSimpArgs false

/- An accept's line (accept): the walk. -/
namespace Go.Proofs.YtbiglifngfgffaaGreatDoor
open Go.RowKit
attribute [local go_sem ↓] Go.wp_at_zero Go.wp_at_succ

/- What is read, step by step. -/
abbrev AccRes := Except Bad (Ac × List (Sel × Nat))
def acceptZ (ws : List ByteArray) (ps : List Nat) (src dst : List (Sel × Nat)) : List ByteArray → AccRes
  | [] => .ok (⟨ps, src.map (·.1), dst.map (·.1), []⟩, src ++ dst)
  | _ :: r5 => if r5 = [] then .error (190, ws.length) else (portsGo r5 (ws.length - r5.length) 0).map fun po => (⟨ps, src.map (·.1), dst.map (·.1), po⟩, src ++ dst)
def acceptQ (ws : List ByteArray) (ps : List Nat) (src : List (Sel × Nat)) : List ByteArray → AccRes
  | [] => .error (190, ws.length)
  | _ :: r3 => match selsGo W_ports r3 (ws.length - r3.length) 0 with
    | .error e => .error e
    | .ok y => acceptZ ws ps src y.1 y.2
theorem acceptP_eq {ws : List ByteArray} {told : Nat} (hne : ws ≠ []) : acceptP ws told = if 64 ≤ told then .error (198, 0) else match ws[1]? with
    | none => .error (190, ws.length)
    | some pr => match protosP pr with
      | none => .error (194, 1)
      | some ps => match ws[2]? with
        | none => .error (190, ws.length)
        | some f => if f ≠ W_from then .error (190, 2) else match selsGo W_to (ws.drop 3) 3 0 with
          | .error e => .error e
          | .ok x => acceptQ ws ps x.1 x.2 := by
  unfold acceptP
  by_cases h : 64 ≤ told
  · rw [if_pos h, if_pos h]
  rw [if_neg h, if_neg h]
  match ws with
  | [] => exact absurd rfl hne
  | [a] => rfl
  | [a, pr] => simp only [List.getElem?_cons_succ, List.getElem?_cons_zero, List.getElem?_nil]; cases protosP pr <;> rfl
  | a :: pr :: f :: r =>
    simp only [List.getElem?_cons_succ, List.getElem?_cons_zero, List.drop_succ_cons, List.drop_zero]
    cases protosP pr with
    | none => rfl
    | some ps =>
      simp only
      by_cases hf : f ≠ W_from
      · rw [if_pos hf, if_pos hf]
      rw [if_neg hf, if_neg hf]
      cases selsGo W_to r 3 0 with
      | error e => rfl
      | ok x =>
        obtain ⟨src, r2⟩ := x
        cases r2 with
        | nil => rfl
        | cons t r3 =>
          unfold acceptQ
          simp only
          cases selsGo W_ports r3 ((a :: pr :: f :: r).length - r3.length) 0 with
          | error e => rfl
          | ok y =>
            obtain ⟨dst, r4⟩ := y
            cases r4 <;> rfl
theorem acceptQ_more {ws : List ByteArray} {ps : List Nat} {src : List (Sel × Nat)} {k : Nat} (hk : k < ws.length) : acceptQ ws ps src (ws.drop k) = match selsGo W_ports (ws.drop (k + 1)) (k + 1) 0 with
    | .error e => .error e
    | .ok y => acceptZ ws ps src y.1 y.2 := by
  rw [List.drop_eq_getElem_cons hk]
  unfold acceptQ
  dsimp only
  rw [List.length_drop, show ws.length - (ws.length - (k + 1)) = k + 1 by omega]
theorem acceptQ_none {ws : List ByteArray} {ps : List Nat} {src : List (Sel × Nat)} {k : Nat} (hk : ws.length ≤ k) : acceptQ ws ps src (ws.drop k) = .error (190, ws.length) := by
  rw [List.drop_eq_nil_of_le hk]
  rfl
theorem usOf_append (n : Nat) (a b : List (Sel × Nat)) : usOf n (a ++ b) = usOf n a ++ usOf n b := by simp [usOf]
def portsT (ws : List ByteArray) (k : Nat) (acc : List (Nat × Nat)) (first : Bool) : Except Bad (List (Nat × Nat)) :=
  if first = true ∧ ws.length ≤ k then .error (190, ws.length) else (portsGo (ws.drop k) k acc.length).map (acc ++ ·)
theorem portsT_step {s : ByteArray} {ws : List ByteArray} {k : Nat} {acc : List (Nat × Nat)} {first : Bool} (h : ws[k]? = some s) : portsT ws k acc first = match portsP s with
    | none => .error (193, k)
    | some x => if 64 ≤ acc.length then .error (198, k) else portsT ws (k + 1) (acc ++ [x]) false := by
  have hk : k < ws.length := (List.getElem?_eq_some_iff.1 h).1
  have hg : ws[k] = s := (List.getElem?_eq_some_iff.1 h).2
  unfold portsT
  rw [if_neg (show ¬ (first = true ∧ ws.length ≤ k) by omega), List.drop_eq_getElem_cons hk, hg]
  conv => lhs; unfold portsGo
  cases portsP s with
  | none => rfl
  | some x =>
    simp only
    rw [if_neg (show ¬ (false = true ∧ ws.length ≤ k + 1) by simp)]
    by_cases h2 : 64 ≤ acc.length
    · rw [if_pos h2, if_pos h2]; rfl
    rw [if_neg h2, if_neg h2, List.length_append, List.length_singleton]
    cases portsGo (List.drop (k + 1) ws) (k + 1) (acc.length + 1) with
    | error e => rfl
    | ok l => simp [Except.map]
theorem portsT_end {ws : List ByteArray} {k : Nat} {acc : List (Nat × Nat)} (h : ws.length ≤ k) : portsT ws k acc false = .ok acc := by
  unfold portsT
  rw [if_neg (by simp), List.drop_eq_nil_of_le h]
  simp [portsGo, Except.map]
theorem portsT_none {ws : List ByteArray} {k : Nat} {acc : List (Nat × Nat)} (h : ws.length ≤ k) : portsT ws k acc true = .error (190, ws.length) := by
  unfold portsT
  rw [if_pos ⟨rfl, h⟩]
theorem acceptZ_more {ws : List ByteArray} {ps : List Nat} {src dst : List (Sel × Nat)} {k : Nat} (hk : k < ws.length) : acceptZ ws ps src dst (ws.drop k) = (portsT ws (k + 1) [] true).map fun po => (⟨ps, src.map (·.1), dst.map (·.1), po⟩, src ++ dst) := by
  rw [List.drop_eq_getElem_cons hk]
  unfold acceptZ portsT
  dsimp only
  by_cases h : ws.length ≤ k + 1
  · rw [if_pos (List.drop_eq_nil_of_le h), if_pos ⟨rfl, h⟩]; rfl
  · rw [if_neg (show ¬ List.drop (k + 1) ws = [] from fun e => h (by rw [List.drop_eq_nil_iff] at e; exact e)), if_neg (show ¬ (true = true ∧ ws.length ≤ k + 1) from fun e => h e.2), List.length_drop, show ws.length - (ws.length - (k + 1)) = k + 1 by omega]
    simp only [List.length_nil, List.nil_append]
    cases portsGo (List.drop (k + 1) ws) (k + 1) 0 <;> rfl
theorem selsGo_rest {en : ByteArray} : ∀ (l : List ByteArray) (i c : Nat) (L : List (Sel × Nat)) (t : List ByteArray), selsGo en l i c = .ok (L, t) → (∃ p, l = p ++ t) ∧ ∀ s r, t = s :: r → s = en := by
  intro l
  induction l with
  | nil =>
    intro i c L t h
    rw [selsGo] at h
    split at h
    · cases h
    injection h with h
    injection h with h2 h3
    subst h3
    exact ⟨⟨[], rfl⟩, fun s r h => (by cases h)⟩
  | cons w r ih =>
    intro i c L t h
    rw [selsGo] at h
    split at h
    · next h1 =>
      injection h with h
      injection h with h2 h3
      subst h3
      exact ⟨⟨[], rfl⟩, fun s r h => by injection h with h _; rw [← h]; exact h1.1⟩
    · split at h
      · cases h
      · next s hs =>
        split at h
        · cases h
        next h2 =>
        cases hr : selsGo en r (i + 1) (c + 1) with
        | error e => rw [hr] at h; cases h
        | ok q =>
          rw [hr] at h
          injection h with h
          injection h with h3 h4
          obtain ⟨⟨p, e1⟩, e2⟩ := ih _ _ q.1 q.2 hr
          rw [← h4]
          exact ⟨⟨w :: p, by rw [e1]; rfl⟩, e2⟩
theorem sels_at {en : ByteArray} {ws : List ByteArray} {i : Nat} {L : List (Sel × Nat)} {t : List ByteArray} (h : selsGo en (ws.drop i) i 0 = .ok (L, t)) : t = ws.drop (ws.length - t.length) ∧ ∀ s, ws[ws.length - t.length]? = some s → s = en := by
  obtain ⟨⟨p, e⟩, h2⟩ := selsGo_rest _ _ _ _ _ h
  have hd : t = ws.drop (ws.length - t.length) := by
    have e3 : ws = (ws.take i ++ p) ++ t := by rw [List.append_assoc, ← e, List.take_append_drop]
    have hl : (ws.take i ++ p).length = ws.length - t.length := by
      have := congrArg List.length e3
      rw [List.length_append] at this
      omega
    have : (ws.take i ++ p ++ t).drop (ws.take i ++ p).length = t := List.drop_left
    rw [← e3, hl] at this
    exact this.symm
  refine ⟨hd, fun s hs => ?_⟩
  have hk := (List.getElem?_eq_some_iff.1 hs).1
  rw [List.drop_eq_getElem_cons hk, (List.getElem?_eq_some_iff.1 hs).2] at hd
  exact h2 _ _ hd
theorem Keeps.then_ {S T : Nat → Prop} {a b c : World} (h : Keeps T a b) (k : Keeps S b c) (hs : ∀ x, S x → T x ∨ a.heap.size ≤ x) : Keeps T a c :=
  ⟨k.os.trans h.os, k.tape.trans h.tape, k.output.trans h.output, Nat.le_trans h.size k.size, fun x hx hT => (k.block x (Nat.lt_of_lt_of_le hx h.size) (fun e => by
    rcases hs x e with h | h
    · exact hT h
    · omega)).trans (h.block x hx hT)⟩
theorem AcRow.below {w w' : World} {base : Nat} {v : Value} {l : List Ac} (h : AcRow w base v l) (hb : Below w.heap.size w w') : AcRow w' base v l := by
  obtain ⟨xs, e, ha, hm⟩ := h
  exact ⟨xs, e, own_below ha hb, fun x hx => ⟨own_below (hm x hx).p hb, own_below (hm x hx).s hb, own_below (hm x hx).d hb, own_below (hm x hx).o hb⟩⟩
theorem AcRow.off {S : Nat → Prop} {w w' : World} {T : List TypeId} {base : Nat} {v : Value} {l : List Ac} (h : AcRow w base v l) (hk : Keeps S w w') (ho : Off S w T) (h0 : 57 ∉ T) (h1 : 5 ∉ T) (h2 : 59 ∉ T) (h3 : 104 ∉ T) : AcRow w' base v l := by
  obtain ⟨xs, e, ha, hm⟩ := h
  exact ⟨xs, e, own_off ha hk ho h0, fun x hx => (hm x hx).keep hk ho h1 h2 h3⟩
theorem UsRow.offs {w : World} {base : Nat} {v : Value} {l : List Us} (h : UsRow w base v l) : Off (fun k => v.ownBlock = some k) w [91] := by
  obtain ⟨xs, _, ho⟩ := h
  exact ownOff ho
def AcceptOk (w0 w : World) (b P n : Nat) (lv uv lst : Value) (ws : List ByteArray) (told : List Ac) (us : List Us) (pc : Array Value) (w' : World) (x : Ac × List (Sel × Nat)) (r : Ending) : Prop :=
  r = .returned (.tuple #[]) ∧ ∃ k' lst' uv', Rs w' b P k' n lv uv' ws ∧ Blk w' P 26 (pc.setIfInBounds 3 lst') ∧ AcRow w' w0.heap.size lst' (told ++ [x.1]) ∧ UsRow w' w0.heap.size uv' (us ++ usOf n x.2) ∧ (∀ g, lst'.ownBlock = some g → lst.ownBlock = some g ∨ w.heap.size ≤ g) ∧ (∀ g, uv'.ownBlock = some g → uv.ownBlock = some g ∨ w.heap.size ≤ g) ∧ x.2.length ≤ 128

set_option maxHeartbeats 8000000 in
set_option maxRecDepth 100000 in
theorem accept_any {w0 w : World} (env : Env w0) (hE : Below w0.heap.size w0 w) {b P n : Nat} {lv uv lst : Value} {ws : List ByteArray} {told : List Ac} {us : List Us} {pc : Array Value} (h : Rs w b P 1 n lv uv ws) (hP : Blk w P 26 pc) (hq : pc[3]? = some lst) (hN : AcRow w w0.heap.size lst told) (hu : UsRow w w0.heap.size uv us) (hus : us.length ≤ 3900000) (hbb : w0.heap.size ≤ b) :
    Calls Tryz.prog 60 #[.pointer (some ⟨b, 0, none⟩)] w fun r w' => OutR (fun x => x = b ∨ uv.ownBlock = some x) (fun k => k = b ∨ k = P ∨ lst.ownBlock = some k ∨ uv.ownBlock = some k) w w' (acceptP ws told.length) n (AcceptOk w0 w b P n lv uv lst ws told us pc w') r := by
  obtain ⟨A, cap, rfl⟩ := hN.shape
  have hlen1 : 1 ≤ ws.length := by
    have := h.ne
    cases ws with
    | nil => exact absurd rfl this
    | cons x r => simp
  obtain ⟨T, hT⟩ : ∃ t, t = told.length := ⟨_, rfl⟩
  rw [← hT] at hq hN ⊢
  have hPb : P ≠ b := hP.ne_ h.blk (by decide)
  have c0 := (hP.cell 3).trans hq
  have c1 := h.blk.cell 2
  simp at c1
  have hroom := h.room (by omega) (by omega) T
  rw [show atW 1 ws = 0 by unfold atW; rw [if_pos hlen1]] at hroom
  obtain ⟨RES, hRES⟩ : ∃ r, r = acceptP ws T := ⟨_, rfl⟩
  rw [← hRES]
  rw [acceptP_eq h.ne] at hRES
  have hbs : w0.heap.size ≤ w.heap.size := hE.size
  have hUB : ∀ g, uv.ownBlock = some g → w0.heap.size ≤ g ∧ g < w.heap.size := by
    obtain ⟨xs, _, ho⟩ := hu
    exact fun g hg => ho.lt g hg
  have HUB := Lib.hid hUB
  have HRoom := Lib.hid hroom
  have RS := Lib.hid h
  have HP := Lib.hid hP
  have US := Lib.hid hu
  have HN := Lib.hid hN
  have HRES := Lib.hid hRES
  have HT := Lib.hid hT
  have HE := Lib.hid hE
  have HEnv := Lib.hid env
  have HWl := Lib.hid h.len
  have FIN : RowKit.Hid (∀ wx, Keeps (fun x => x = b ∨ uv.ownBlock = some x) w wx → Keeps (fun k => k = b ∨ k = P ∨ (Value.slice A T cap).ownBlock = some k ∨ uv.ownBlock = some k) w wx) := Lib.hid fun wx h => h.mono fun k _ hs => hs.elim Or.inl fun e => Or.inr (Or.inr (Or.inr e))
  have HOff : RowKit.Hid (Off (fun x => x = b ∨ uv.ownBlock = some x) w [81, 91]) := Lib.hid (fun k hk => hk.elim (fun e => ⟨_, _, _, by subst e; exact RS.out.blk, by simp⟩) (fun e => by obtain ⟨cur, e2, fz, h1, h2⟩ := US.out.offs k e; exact ⟨cur, e2, fz, h1, by simp [List.mem_singleton.1 h2]⟩))
  have KP := Lib.hid (Keeps.refl (fun x => x = b ∨ uv.ownBlock = some x) w)
  clear hroom h hP hN hRES hT hE env hu hUB
  go_enter Tryz.func60, Tryz.ntmps60
  go_wp2_with fail
  go_at_call 91
  refine HRoom.out.mono ?_
  rintro r w1 ⟨h1, d1⟩
  have RS1 := Lib.hid (RS.out.below d1)
  have US1 := Lib.hid (US.out.below d1)
  have KP1 := Lib.hid (KP.out.trans (Keeps.of_below d1 fun k hk _ => hk))
  clear RS US KP
  by_cases hT64 : T < 64
  case neg =>
    rw [decide_eq_false hT64] at h1
    unfold UnlessR at h1
    subst h1
    unfold PanicAt
    exact ⟨rfl, OutR.bad (KP1.out) (by rw [HRES.out, if_pos (by omega)])⟩
  rw [decide_eq_true hT64] at h1
  unfold UnlessR at h1
  subst h1
  have hR1 := HRES.out
  rw [if_neg (by omega)] at hR1
  have HR1 := Lib.hid hR1
  clear hR1 HRES HRoom d1 c0 c1
  go_upto_region 2 with fail
  have NB2 := Lib.hid (Blk.new w1 57 #[.slice none 0 0, .slice none 0 0, .slice none 0 0, .slice none 0 0])
  have d2 := boxed w1 (.cells #[.slice none 0 0, .slice none 0 0, .slice none 0 0, .slice none 0 0] 57)
  have hNsz : w.heap.size ≤ w1.heap.size := KP1.out.size
  generalize w1.alloc (.cells #[.slice none 0 0, .slice none 0 0, .slice none 0 0, .slice none 0 0] 57) = w2 at NB2 d2 ⊢
  have RS2 := Lib.hid (RS1.out.below d2)
  have US2 := Lib.hid (US1.out.below d2)
  have KP2 := Lib.hid (KP1.out.trans (Keeps.of_below d2 fun k hk _ => hk))
  clear RS1 US1 KP1
  generalize w1.heap.size = N at NB2 d2 hNsz ⊢
  clear d2
  have htake := RS2.out.take hlen1
  unfold TakeR at htake
  have HTake := Lib.hid htake
  clear htake
  go_upto_region 3 with fail
  go_wp2_with fail
  go_at_call 29
  refine HTake.out.mono ?_
  rintro r w3 ⟨⟨d3, e3⟩, h3⟩
  have OB2 : Off (fun x => x = b) w2 [81] := fun k hk => ⟨_, _, _, by subst hk; exact RS2.out.blk, by simp⟩
  have KP3 := Lib.hid (KP2.out.trans (d3.mono (T := fun x => x = b ∨ uv.ownBlock = some x) fun k _ hk => Or.inl hk))
  have US3 := Lib.hid (US2.out.off d3 OB2 (by decide))
  have NB3 := Lib.hid (NB2.out.off d3 OB2 (by decide))
  clear US2 NB2
  have RS3 := Lib.hid e3
  clear RS2 KP2 d3 e3 OB2 HTake
  cases hs1 : ws[1]? with
  | none =>
    rw [hs1] at h3
    simp only at h3
    subst h3
    unfold PanicAt
    have hR := HR1.out
    rw [hs1] at hR
    exact ⟨rfl, OutR.bad (KP3.out) hR⟩
  | some pr =>
  rw [hs1] at h3
  simp only at h3
  subst h3
  have hR2 := HR1.out
  rw [hs1] at hR2
  simp only at hR2
  have HR2 := Lib.hid hR2
  have hlt1 : 1 < ws.length := (List.getElem?_eq_some_iff.1 hs1).1
  have hprs : pr.size ≤ 2000000 := RS3.out.sizes pr (List.mem_of_getElem? hs1)
  have hE3 := below_keeps HE.out KP3.out (fun k hk => hk.elim (fun e => by subst e; exact hbb) fun e => (HUB.out k e).1)
  have hpro := protos_any (HEnv.out.below hE3) pr hprs
  have x0 := NB3.out.cell 0
  have z0 := NB3.out.frozen 0
  simp at x0
  clear hR2 HR1 hs1 hE3
  unfold ProtosGot at hpro
  cases hps : protosP pr with
  | none =>
    rw [hps] at hpro
    have HPro : RowKit.Hid (Calls Tryz.prog 96 #[.string pr] w3 fun r w' => r = .returned (.tuple #[.slice none 0 0, .bool false]) ∧ Below w3.heap.size w3 w') := Lib.hid hpro
    have hR := HR2.out
    rw [hps] at hR
    have HR3 := Lib.hid hR
    clear hR HR2 hpro hps
    go_upto_region 4 with (go_at_call 96; (with_reducible refine HPro.out.mono ?_); rintro r w4 ⟨rfl, d4⟩; have NB4 := Lib.hid (NB3.out.below d4 NB3.out.lt); have y0 := NB4.out.cell 0; have yz := NB4.out.frozen 0; simp at y0)
    clear NB3
    have RS4 := Lib.hid (RS3.out.below d4)
    have US4 := Lib.hid (US3.out.below d4)
    have KP4 := Lib.hid (KP3.out.trans (Keeps.of_below d4 fun k hk _ => hk))
    clear RS3 US3 KP3
    obtain ⟨w5, hw5⟩ : ∃ x, x = w4.setCell ⟨N, 0, none⟩ (.slice none 0 0) := ⟨_, rfl⟩
    have KN5 : Keeps (fun x => x = N) w4 w5 := by rw [hw5]; exact (Keeps.refl (fun x => x = N) w4).setCell (p := ⟨N, 0, none⟩) (Or.inl rfl) _
    have ON5 : Off (fun x => x = N) w4 [57] := fun k hk => ⟨_, _, _, by subst hk; exact NB4.out, by simp⟩
    have NB5 : RowKit.Hid (Blk w5 N 57 #[.slice none 0 0, .slice none 0 0, .slice none 0 0, .slice none 0 0]) := Lib.hid (by rw [hw5]; exact NB4.out.set_ 0 (.slice none 0 0))
    have KP5 := Lib.hid (KP4.out.then_ KN5 fun x hx => Or.inr (hx ▸ hNsz))
    rw [← hw5]
    clear hw5 NB4 KP4
    have RS5 := Lib.hid (RS4.out.off KN5 ON5 (by decide) (by decide))
    have US5 := Lib.hid (US4.out.off KN5 ON5 (by decide))
    clear RS4 US4
    have hun := RS5.out.unless (by omega) (by omega) false 194
    rw [atW_take hlt1] at hun
    have HUn : RowKit.Hid (Calls Tryz.prog 30 #[.pointer (some ⟨b, 0, none⟩), .bool false, .int .i64 194] w5 fun r w' => r = PanicAt 194 n 1 ∧ Below w5.heap.size w5 w') := Lib.hid hun
    clear hun d4 KN5 ON5 y0 yz HPro
    go_wp2_with (go_at_call 30; (with_reducible refine HUn.out.mono ?_); rintro r w6 ⟨rfl, d6⟩; unfold PanicAt)
    exact ⟨rfl, OutR.bad ((KP5.out.trans (Keeps.of_below d6 fun k hk _ => hk))) HR3.out⟩
  | some ps =>
  rw [hps] at hpro
  have HPro : RowKit.Hid (Calls Tryz.prog 96 #[.string pr] w3 fun r w' => (∃ v : Value, r = .returned (.tuple #[v, .bool true]) ∧ w'.ownsRow w3.heap.size 5 1 v ps.length (protoCells ps)) ∧ Below w3.heap.size w3 w') := Lib.hid hpro
  have hR := HR2.out
  rw [hps] at hR
  have HR3 := Lib.hid hR
  have hbs3 : w0.heap.size ≤ w3.heap.size := by have := KP3.out.size; omega
  clear hR HR2 hpro hps
  go_upto_region 4 with (go_at_call 96; (with_reducible refine HPro.out.mono ?_); rintro r w4 ⟨⟨vp, rfl, o4⟩, d4⟩; obtain ⟨Ap, cp, rfl⟩ := own_shape o4; have O4 := Lib.hid o4; clear o4; have NB4 := Lib.hid (NB3.out.below d4 NB3.out.lt); have y0 := NB4.out.cell 0; have yz := NB4.out.frozen 0; simp at y0)
  clear NB3
  have RS4 := Lib.hid (RS3.out.below d4)
  have US4 := Lib.hid (US3.out.below d4)
  have KP4 := Lib.hid (KP3.out.trans (Keeps.of_below d4 fun k hk _ => hk))
  clear RS3 US3 KP3
  have R14 := Lib.hid (O4.out.mono hbs3)
  obtain ⟨w5, hw5⟩ : ∃ x, x = w4.setCell ⟨N, 0, none⟩ (.slice Ap ps.length cp) := ⟨_, rfl⟩
  have KN5 : Keeps (fun x => x = N) w4 w5 := by rw [hw5]; exact (Keeps.refl (fun x => x = N) w4).setCell (p := ⟨N, 0, none⟩) (Or.inl rfl) _
  have ON5 : Off (fun x => x = N) w4 [57] := fun k hk => ⟨_, _, _, by subst hk; exact NB4.out, by simp⟩
  have NB5 : RowKit.Hid (Blk w5 N 57 #[.slice Ap ps.length cp, .slice none 0 0, .slice none 0 0, .slice none 0 0]) := Lib.hid (by rw [hw5]; exact NB4.out.set_ 0 (.slice Ap ps.length cp))
  have KP5 := Lib.hid (KP4.out.then_ KN5 fun x hx => Or.inr (hx ▸ hNsz))
  rw [← hw5]
  clear hw5 NB4 KP4
  have RS5 := Lib.hid (RS4.out.off KN5 ON5 (by decide) (by decide))
  have US5 := Lib.hid (US4.out.off KN5 ON5 (by decide))
  have R15 := Lib.hid (own_off R14.out KN5 ON5 (by decide))
  clear RS4 US4 R14
  have hun := RS5.out.unless (by omega) (by omega) true 194
  have HUn : RowKit.Hid (Calls Tryz.prog 30 #[.pointer (some ⟨b, 0, none⟩), .bool true, .int .i64 194] w5 fun r w' => r = .returned (.tuple #[]) ∧ Below w5.heap.size w5 w') := Lib.hid hun
  clear hun d4 KN5 ON5 y0 yz HPro O4 x0 z0
  go_upto_region 5 with (go_at_call 30; (with_reducible refine HUn.out.mono ?_); rintro r w6 ⟨rfl, d6⟩)
  have RS6 := Lib.hid (RS5.out.below d6)
  have US6 := Lib.hid (US5.out.below d6)
  have R16 := Lib.hid (own_below R15.out d6)
  have KP6 := Lib.hid (KP5.out.trans (Keeps.of_below d6 fun k hk _ => hk))
  have NB6 := Lib.hid (NB5.out.below d6 NB5.out.lt)
  clear RS5 US5 R15 KP5 NB5
  clear d6 HUn
  have hmust := RS6.out.must (by omega) W_from
  unfold MustR at hmust
  have HMust : RowKit.Hid (Calls Tryz.prog 93 #[.pointer (some ⟨b, 0, none⟩), .string ⟨#[102, 114, 111, 109]⟩] w6 _) := Lib.hid hmust
  clear hmust
  go_wp2_with fail
  go_at_call 93
  refine HMust.out.mono ?_
  rintro r w7 ⟨⟨d7, e7⟩, h7⟩
  have OB6 : Off (fun x => x = b) w6 [81] := fun k hk => ⟨_, _, _, by subst hk; exact RS6.out.blk, by simp⟩
  have KP7 := Lib.hid (KP6.out.trans (d7.mono (T := fun x => x = b ∨ uv.ownBlock = some x) fun k _ hk => Or.inl hk))
  have RS7 := Lib.hid e7
  have US7 := Lib.hid (US6.out.off d7 OB6 (by decide))
  have NB7 := Lib.hid (NB6.out.off d7 OB6 (by decide))
  have R17 := Lib.hid (own_off R16.out d7 OB6 (by decide))
  clear US6 NB6 R16
  clear RS6 KP6 d7 e7 OB6 HMust
  have hR3 := HR3.out
  try simp only at hR3
  cases hs2 : ws[2]? with
  | none =>
    rw [show 1 + 1 = 2 from rfl, hs2] at h7
    simp only at h7
    subst h7
    unfold PanicAt
    rw [hs2] at hR3
    exact ⟨rfl, OutR.bad (KP7.out) hR3⟩
  | some fr =>
  rw [show 1 + 1 = 2 from rfl, hs2] at h7
  rw [hs2] at hR3
  simp only at h7 hR3
  by_cases hfr : fr = W_from
  case neg =>
    rw [if_neg hfr] at h7
    subst h7
    unfold PanicAt
    rw [if_pos hfr] at hR3
    exact ⟨rfl, OutR.bad (KP7.out) hR3⟩
  rw [if_pos hfr] at h7
  rw [if_neg (by simp [hfr])] at hR3
  subst h7
  have hlen3 : 3 ≤ ws.length := by have := (List.getElem?_eq_some_iff.1 hs2).1; omega
  have HR7 := Lib.hid hR3
  clear hR3 HR3 hs2 hfr
  have hE7 := below_keeps HE.out KP7.out (fun k hk => hk.elim (fun e => by subst e; exact hbb) fun e => (HUB.out k e).1)
  have hse := sels_any HEnv.out hE7 RS7.out US7.out hlen3 (by omega) hbb W_to
  have hbs7 : w.heap.size ≤ w7.heap.size := KP7.out.size
  clear hE7
  cases hq1 : selsGo W_to (ws.drop 3) 3 0 with
  | error e =>
    have HSe : RowKit.Hid (Calls Tryz.prog 97 #[.pointer (some ⟨b, 0, none⟩), .string ⟨#[116, 111]⟩] w7 fun r w' => Keeps (fun x => x = b ∨ uv.ownBlock = some x) w7 w' ∧ r = PanicAt e.1 n e.2) := Lib.hid (hse.mono fun r w' ⟨h1, h2⟩ => ⟨h1, by rw [show 1 + 1 + 1 = 3 from rfl, hq1] at h2; exact h2⟩)
    have hR := HR7.out
    rw [hq1] at hR
    have HR := Lib.hid hR
    clear hR HR7 hse hq1
    go_wp2_with (go_at_call 97; (with_reducible refine HSe.out.mono ?_); rintro r w8 ⟨d8, rfl⟩; unfold PanicAt)
    exact ⟨rfl, OutR.bad ((KP7.out.trans d8)) HR.out⟩
  | ok x =>
  obtain ⟨src, r2⟩ := x
  obtain ⟨hr2, hto⟩ := sels_at hq1
  have hR := HR7.out
  rw [hq1] at hR
  simp only at hR
  obtain ⟨k1, hk1⟩ : ∃ k, k = ws.length - r2.length := ⟨_, rfl⟩
  rw [← hk1] at hr2 hto
  rw [hr2] at hR
  have hk1l : k1 ≤ ws.length := by omega
  have HSe : RowKit.Hid (Calls Tryz.prog 97 #[.pointer (some ⟨b, 0, none⟩), .string ⟨#[116, 111]⟩] w7 fun r w' => Keeps (fun x => x = b ∨ uv.ownBlock = some x) w7 w' ∧ ∃ v uv', r = .returned v ∧ w'.ownsRow w7.heap.size 59 6 v src.length (selCells (src.map (·.1))) ∧ Rs w' b P k1 n lv uv' ws ∧ UsRow w' w0.heap.size uv' (us ++ usOf n src) ∧ (∀ g, uv'.ownBlock = some g → uv.ownBlock = some g ∨ w7.heap.size ≤ g) ∧ src.length ≤ 64) := Lib.hid (hse.mono fun r w' ⟨h1, h2⟩ => ⟨h1, by rw [show 1 + 1 + 1 = 3 from rfl, hq1] at h2; obtain ⟨v, uv', g1, g2, g3, g4, g5, g6⟩ := h2; exact ⟨v, uv', g1, g2, by rw [hk1]; exact g3, g4, g5, g6⟩⟩)
  have HR8 := Lib.hid hR
  have HTo := Lib.hid hto
  clear hR HR7 hse hq1 hr2 hto hk1
  go_upto_region 7 with (go_at_call 97; (with_reducible refine HSe.out.mono ?_); rintro r w8 ⟨d8, vs, uv1, rfl, o8, e8, u8, g8, l8⟩; obtain ⟨As, cs, rfl⟩ := own_shape o8; have O8 := Lib.hid o8; have RS8 := Lib.hid e8; have US8 := Lib.hid u8; have HG8 := Lib.hid g8; clear o8 e8 u8 g8; have OS7 : Off (fun x => x = b ∨ uv.ownBlock = some x) w7 [81, 91] := (fun k hk => hk.elim (fun e => ⟨_, _, _, by subst e; exact RS7.out.blk, by simp⟩) (fun e => by obtain ⟨cur, e2, fz, h1, h2⟩ := US7.out.offs k e; exact ⟨cur, e2, fz, h1, by simp [List.mem_singleton.1 h2]⟩)); have NB8 := Lib.hid (NB7.out.off d8 OS7 (by decide)); have y0 := NB8.out.cell 1; have yz := NB8.out.frozen 1; simp at y0)
  have OS7 : Off (fun x => x = b ∨ uv.ownBlock = some x) w7 [81, 91] := (fun k hk => hk.elim (fun e => ⟨_, _, _, by subst e; exact RS7.out.blk, by simp⟩) (fun e => by obtain ⟨cur, e2, fz, h1, h2⟩ := US7.out.offs k e; exact ⟨cur, e2, fz, h1, by simp [List.mem_singleton.1 h2]⟩))
  have KP8 := Lib.hid (KP7.out.trans d8)
  have R18 := Lib.hid (own_off R17.out d8 OS7 (by decide))
  clear R17
  have R28 := Lib.hid (O8.out.mono (Nat.le_trans hbs hbs7))
  have HG := Lib.hid fun g hg => (HG8.out g hg).imp id (Nat.le_trans hbs7)
  clear O8 HG8 OS7 NB7 RS7 US7 KP7 d8 HSe
  obtain ⟨w9, hw9⟩ : ∃ x, x = w8.setCell ⟨N, 1, none⟩ (.slice As src.length cs) := ⟨_, rfl⟩
  have KN9 : Keeps (fun x => x = N) w8 w9 := by rw [hw9]; exact (Keeps.refl (fun x => x = N) w8).setCell (p := ⟨N, 1, none⟩) (Or.inl rfl) _
  have ON9 : Off (fun x => x = N) w8 [57] := fun k hk => ⟨_, _, _, by subst hk; exact NB8.out, by simp⟩
  have NB9 : RowKit.Hid (Blk w9 N 57 #[.slice Ap ps.length cp, .slice As src.length cs, .slice none 0 0, .slice none 0 0]) := Lib.hid (by rw [hw9]; exact NB8.out.set_ 1 (.slice As src.length cs))
  have KP9 := Lib.hid (KP8.out.then_ KN9 fun x hx => Or.inr (hx ▸ hNsz))
  rw [← hw9]
  clear hw9 NB8 KP8
  have RS9 := Lib.hid (RS8.out.off KN9 ON9 (by decide) (by decide))
  have US9 := Lib.hid (US8.out.off KN9 ON9 (by decide))
  have R19 := Lib.hid (own_off R18.out KN9 ON9 (by decide))
  have R29 := Lib.hid (own_off R28.out KN9 ON9 (by decide))
  clear RS8 US8 R18 R28
  clear KN9 ON9 y0 yz
  have hmust := RS9.out.must hk1l W_to
  unfold MustR at hmust
  have HMust : RowKit.Hid (Calls Tryz.prog 93 #[.pointer (some ⟨b, 0, none⟩), .string ⟨#[116, 111]⟩] w9 _) := Lib.hid hmust
  clear hmust
  go_wp2_with fail
  go_at_call 93
  refine HMust.out.mono ?_
  rintro r w10 ⟨⟨d10, e10⟩, h10⟩
  have OB9 : Off (fun x => x = b) w9 [81] := fun k hk => ⟨_, _, _, by subst hk; exact RS9.out.blk, by simp⟩
  have KP10 := Lib.hid (KP9.out.trans (d10.mono (T := fun x => x = b ∨ uv.ownBlock = some x) fun k _ hk => Or.inl hk))
  have RS10 := Lib.hid e10
  have US10 := Lib.hid (US9.out.off d10 OB9 (by decide))
  have NB10 := Lib.hid (NB9.out.off d10 OB9 (by decide))
  have R110 := Lib.hid (own_off R19.out d10 OB9 (by decide))
  have R210 := Lib.hid (own_off R29.out d10 OB9 (by decide))
  clear US9 NB9 R19 R29
  clear RS9 KP9 d10 e10 OB9 HMust
  cases hs3 : ws[k1]? with
  | none =>
    have hge : ws.length ≤ k1 := by rw [List.getElem?_eq_none_iff] at hs3; exact hs3
    rw [hs3] at h10
    simp only at h10
    subst h10
    unfold PanicAt
    exact ⟨rfl, OutR.bad (KP10.out) (HR8.out.trans (acceptQ_none hge))⟩
  | some tw =>
  have htw := HTo.out tw hs3
  rw [hs3] at h10
  simp only at h10
  rw [if_pos htw] at h10
  subst h10
  have hk1t : k1 + 1 ≤ ws.length := (List.getElem?_eq_some_iff.1 hs3).1
  have hR9 := HR8.out
  rw [acceptQ_more (by omega)] at hR9
  clear HR8 HTo htw hs3
  have hE10 := below_keeps HE.out KP10.out (fun k hk => hk.elim (fun e => by subst e; exact hbb) fun e => (HUB.out k e).1)
  have hse := sels_any HEnv.out hE10 RS10.out US10.out hk1t (by rw [List.length_append]; unfold usOf; rw [List.length_map]; omega) hbb W_ports
  have hbs10 : w.heap.size ≤ w10.heap.size := KP10.out.size
  have HTH : RowKit.Hid (∀ wx, Keeps (fun x => x = b ∨ uv1.ownBlock = some x) w10 wx → Keeps (fun x => x = b ∨ uv.ownBlock = some x) w wx) := Lib.hid fun wx hd => KP10.out.then_ hd fun x hx => hx.elim (fun e => Or.inl (Or.inl e)) fun e => (HG.out x e).elim (fun e => Or.inl (Or.inr e)) Or.inr
  clear hE10
  cases hq2 : selsGo W_ports (ws.drop (k1 + 1)) (k1 + 1) 0 with
  | error e =>
    have HSe : RowKit.Hid (Calls Tryz.prog 97 #[.pointer (some ⟨b, 0, none⟩), .string ⟨#[112, 111, 114, 116, 115]⟩] w10 fun r w' => Keeps (fun x => x = b ∨ uv1.ownBlock = some x) w10 w' ∧ r = PanicAt e.1 n e.2) := Lib.hid (hse.mono fun r w' ⟨h1, h2⟩ => ⟨h1, by rw [hq2] at h2; exact h2⟩)
    rw [hq2] at hR9
    have HR := Lib.hid hR9
    clear hR9 hse hq2
    go_wp2_with (go_at_call 97; (with_reducible refine HSe.out.mono ?_); rintro r w11 ⟨d11, rfl⟩; unfold PanicAt)
    exact ⟨rfl, OutR.bad ((HTH.out _ d11)) HR.out⟩
  | ok x =>
  obtain ⟨dst, r4⟩ := x
  obtain ⟨hr4, hpo⟩ := sels_at hq2
  rw [hq2] at hR9
  simp only at hR9
  obtain ⟨k2, hk2⟩ : ∃ k, k = ws.length - r4.length := ⟨_, rfl⟩
  rw [← hk2] at hr4 hpo
  rw [hr4] at hR9
  have hk2l : k2 ≤ ws.length := by omega
  have HSe : RowKit.Hid (Calls Tryz.prog 97 #[.pointer (some ⟨b, 0, none⟩), .string ⟨#[112, 111, 114, 116, 115]⟩] w10 fun r w' => Keeps (fun x => x = b ∨ uv1.ownBlock = some x) w10 w' ∧ ∃ v uv', r = .returned v ∧ w'.ownsRow w10.heap.size 59 6 v dst.length (selCells (dst.map (·.1))) ∧ Rs w' b P k2 n lv uv' ws ∧ UsRow w' w0.heap.size uv' ((us ++ usOf n src) ++ usOf n dst) ∧ (∀ g, uv'.ownBlock = some g → uv1.ownBlock = some g ∨ w10.heap.size ≤ g) ∧ dst.length ≤ 64) := Lib.hid (hse.mono fun r w' ⟨h1, h2⟩ => ⟨h1, by rw [hq2] at h2; obtain ⟨v, uv', g1, g2, g3, g4, g5, g6⟩ := h2; exact ⟨v, uv', g1, g2, by rw [hk2]; exact g3, g4, g5, g6⟩⟩)
  have HR10 := Lib.hid hR9
  have HPo := Lib.hid hpo
  have OS10 : Off (fun x => x = b ∨ uv1.ownBlock = some x) w10 [81, 91] := (fun k hk => hk.elim (fun e => ⟨_, _, _, by subst e; exact RS10.out.blk, by simp⟩) (fun e => by obtain ⟨cur, e2, fz, h1, h2⟩ := US10.out.offs k e; exact ⟨cur, e2, fz, h1, by simp [List.mem_singleton.1 h2]⟩))
  have HOS10 := Lib.hid OS10
  clear hR9 hse hq2 hr4 hpo hk2 OS10
  go_upto_region 9 with (go_at_call 97; (with_reducible refine HSe.out.mono ?_); rintro r w11 ⟨d11, vd, uv2, rfl, o11, e11, u11, g11, l11⟩; obtain ⟨Ad, cd, rfl⟩ := own_shape o11; have O11 := Lib.hid o11; have RS11 := Lib.hid e11; have US11 := Lib.hid u11; have HG11 := Lib.hid g11; clear o11 e11 u11 g11; have NB11 := Lib.hid (NB10.out.off d11 HOS10.out (by decide)); have y0 := NB11.out.cell 2; have yz := NB11.out.frozen 2; simp at y0)
  have KP11 := Lib.hid (HTH.out _ d11)
  have R111 := Lib.hid (own_off R110.out d11 HOS10.out (by decide))
  have R211 := Lib.hid (own_off R210.out d11 HOS10.out (by decide))
  clear R110 R210
  have R311 := Lib.hid (O11.out.mono (Nat.le_trans hbs hbs10))
  have HG2 := Lib.hid fun g hg => (HG11.out g hg).elim (HG.out g) (fun h => Or.inr (Nat.le_trans hbs10 h))
  clear O11 HG11 HOS10 NB10 RS10 US10 KP10 d11 HSe HTH HG
  obtain ⟨w12, hw12⟩ : ∃ x, x = w11.setCell ⟨N, 2, none⟩ (.slice Ad dst.length cd) := ⟨_, rfl⟩
  have KN12 : Keeps (fun x => x = N) w11 w12 := by rw [hw12]; exact (Keeps.refl (fun x => x = N) w11).setCell (p := ⟨N, 2, none⟩) (Or.inl rfl) _
  have ON12 : Off (fun x => x = N) w11 [57] := fun k hk => ⟨_, _, _, by subst hk; exact NB11.out, by simp⟩
  have NB12 : RowKit.Hid (Blk w12 N 57 #[.slice Ap ps.length cp, .slice As src.length cs, .slice Ad dst.length cd, .slice none 0 0]) := Lib.hid (by rw [hw12]; exact NB11.out.set_ 2 (.slice Ad dst.length cd))
  have KP12 := Lib.hid (KP11.out.then_ KN12 fun x hx => Or.inr (hx ▸ hNsz))
  rw [← hw12]
  clear hw12 NB11 KP11
  have RS12 := Lib.hid (RS11.out.off KN12 ON12 (by decide) (by decide))
  have US12 := Lib.hid (US11.out.off KN12 ON12 (by decide))
  have R112 := Lib.hid (own_off R111.out KN12 ON12 (by decide))
  have R212 := Lib.hid (own_off R211.out KN12 ON12 (by decide))
  have R312 := Lib.hid (own_off R311.out KN12 ON12 (by decide))
  clear RS11 US11 R111 R211 R311
  clear KN12 ON12 y0 yz
  have hmore := RS12.out.more
  obtain ⟨j0, hj, hj0, hj1, hj2⟩ := info_parts info_ac
  by_cases hk2e : k2 < ws.length
  case neg =>
    rw [decide_eq_false hk2e] at hmore
    have HMore := Lib.hid hmore
    have hR := HR10.out
    rw [List.drop_eq_nil_of_le (by omega), acceptZ] at hR
    have HRF := Lib.hid hR
    clear hR hmore HR10
    go_upto_region 18 with (go_at_call 94; (with_reducible refine HMore.out.mono ?_); rintro r w13 ⟨rfl, d13⟩)
    have RS13 := Lib.hid (RS12.out.below d13)
    have US13 := Lib.hid (US12.out.below d13)
    have R113 := Lib.hid (own_below R112.out d13)
    have R213 := Lib.hid (own_below R212.out d13)
    have R313 := Lib.hid (own_below R312.out d13)
    have NB13 := Lib.hid (NB12.out.below d13 NB12.out.lt)
    have KP13 := Lib.hid (KP12.out.trans (Keeps.of_below d13 fun k hk _ => hk))
    clear RS12 US12 R112 R212 R312 NB12 KP12
    have R413 := Lib.hid (World.ownsRow_nil w13 w0.heap.size 104 2)
    clear d13 HMore HPo
    have hszE : w.heap.size ≤ w13.heap.size := KP13.out.size
    have PE := Lib.hid (HP.out.off KP13.out HOff.out (by decide))
    obtain ⟨xs, hxs, hac, hmem⟩ := HN.out.off KP13.out HOff.out (by decide) (by decide) (by decide) (by decide)
    have HNA : RowKit.Hid (some N ≠ (Value.slice A T cap).ownBlock) := Lib.hid fun e => by
      obtain ⟨xs, _, ho, _⟩ := HN.out
      have := (ho.lt N e.symm).2
      omega
    rw [← HT.out] at hac
    have HXs := Lib.hid hxs
    have x0 := (PE.out.cell 3).trans hq
    have x2 := RS13.out.blk.cell 2
    have n0 := NB13.out.cell 0
    have n1 := NB13.out.cell 1
    have n2 := NB13.out.cell 2
    have n3 := NB13.out.cell 3
    simp at x2 n0 n1 n2 n3
    obtain ⟨w14, hw14⟩ : ∃ x, x = (w13.alloc (.cells #[.slice Ap ps.length cp, .slice As src.length cs, .slice Ad dst.length cd, .slice none 0 0] 57)).drew := ⟨_, rfl⟩
    have HOX : RowKit.Hid (w14.ownsRow w0.heap.size 57 4 (.slice A T cap) T (acCells xs)) := Lib.hid (by rw [hw14]; exact hac.alloc _)
    have HNew : RowKit.Hid (∀ j u, [.slice Ap ps.length cp, .slice As src.length cs, .slice Ad dst.length cd, .slice none 0 0][j]? = some u → w14.cell? ((⟨w13.heap.size, 0, none⟩ : Addr).add j) = some u) := Lib.hid (by rw [hw14]; exact cells_new w13 [.slice Ap ps.length cp, .slice As src.length cs, .slice Ad dst.length cd, .slice none 0 0] 57)
    have HPd : RowKit.Hid (Blk w14 P 26 pc) := Lib.hid (by rw [hw14]; exact PE.out.alloc _)
    have HNd : RowKit.Hid (Blk w14 N 57 #[.slice Ap ps.length cp, .slice As src.length cs, .slice Ad dst.length cd, .slice none 0 0]) := Lib.hid (by rw [hw14]; exact NB13.out.alloc _)
    have HRd : RowKit.Hid (Rs w14 b P k2 n lv uv2 ws) := Lib.hid (by rw [hw14]; exact ⟨(RS13.out.alloc _).blk, (RS13.out.alloc _).row, RS13.out.ne, RS13.out.len, RS13.out.sizes⟩)
    have HKd : RowKit.Hid (Keeps (fun x => x = b ∨ uv.ownBlock = some x) w w14) := Lib.hid (by rw [hw14]; exact (KP13.out.alloc _).drew)
    have bE : Below w13.heap.size w13 w14 := by rw [hw14]; have q := boxed w13 (.cells #[.slice Ap ps.length cp, .slice As src.length cs, .slice Ad dst.length cd, .slice none 0 0] 57); exact ⟨q.os, q.tape, q.output, q.size, q.block⟩
    have HM14 : RowKit.Hid (∀ x ∈ xs, AcMem w14 w0.heap.size x) := Lib.hid fun x hx => ⟨own_below (hmem x hx).p bE, own_below (hmem x hx).s bE, own_below (hmem x hx).d bE, own_below (hmem x hx).o bE⟩
    have HU14 := Lib.hid (US13.out.below bE)
    have HMN : RowKit.Hid (AcMem w14 w0.heap.size ⟨⟨ps, src.map (·.1), dst.map (·.1), []⟩, .slice Ap ps.length cp, .slice As src.length cs, .slice Ad dst.length cd, .slice none 0 0⟩) := Lib.hid ⟨own_below R113.out bE, by rw [List.length_map]; exact own_below R213.out bE, by rw [List.length_map]; exact own_below R313.out bE, own_below R413.out bE⟩
    have hs14 : w14.heap.size = w13.heap.size + 1 := by rw [hw14]; simp
    have y0 := (HPd.out.cell 3).trans hq
    have y2 := HRd.out.blk.cell 2
    have v0 := HNd.out.cell 0
    have v1 := HNd.out.cell 1
    have v2 := HNd.out.cell 2
    have v3 := HNd.out.cell 3
    simp at y2 v0 v1 v2 v3
    clear hxs hac hmem bE US13 RS13 PE NB13 R113 R213 R313 R413 KP13
    rw [hw14] at HOX HNew HPd HNd y0 y2 v0 v1 v2 v3
    refine wp_region_E 16 (fun w' => w'.cell? ⟨b, 2, none⟩ = some (.pointer (some ⟨P, 0, none⟩)) ∧ w'.cell? ⟨P, 3, none⟩ = some (.slice A T cap) ∧ w'.cell? ⟨N, 0, none⟩ = some (.slice Ap ps.length cp) ∧ w'.cell? ⟨N, 1, none⟩ = some (.slice As src.length cs) ∧ w'.cell? ⟨N, 2, none⟩ = some (.slice Ad dst.length cd) ∧ w'.cell? ⟨N, 3, none⟩ = some (.slice none 0 0)) (by kernel_rfl) (⟨x2, x0, n0, n1, n2, n3⟩) (fun hHeld => ?_)
    refine tE 0 ?_; try simp only [Ap]
    refine tE 1 ?_; try simp only [Ap]
    refine tE 2 ?_; try simp only [Ap]
    refine tE 3 ?_; try simp only [Ap]
    refine tE 4 ?_; try simp only [Ap]
    refine tE 5 ?_; try simp only [Ap]
    refine tE 6 ?_; try simp only [Ap]
    refine tE 7 ?_; try simp only [Ap]
    refine tE 8 ?_; try simp only [Ap]
    refine tE 9 ?_; try simp only [Ap]
    refine tE 10 ?_; try simp only [Ap]
    refine tE 11 ?_; try simp only [Ap]
    refine wpAnyE_ready (rs := [12]) (by kernel_rfl) (by simp) ?_
    refine AllReadyE.cons rfl (fun K hK => ?_) AllReadyE.nil
    go_simp
    skip
    refine hK.out _ _ (fun _ => ⟨y2, y0, v0, v1, v2, v3⟩) (fun hHeld => ?_)
    have hHeld := hHeld (by decide)
    clear hK K
    try simp only [Ap]
    refine wpAnyE_ready (rs := [13]) (by kernel_rfl) (by simp) ?_
    refine AllReadyE.cons rfl (fun K hK => ?_) AllReadyE.nil
    refine step_append_lies _ (by rfl) _ _ _ (by rfl) w0.heap.size 57 j0 (.agg #[.slice none 0 0, .slice none 0 0, .slice none 0 0, .slice none 0 0]) 4 96 Tryz.underlying24 hj hj0 hj1 hj2 rfl (by decide) _ T _ (by rfl) HOX.out ⟨w13.heap.size, 0, none⟩ 1 1 [.slice Ap ps.length cp, .slice As src.length cs, .slice Ad dst.length cd, .slice none 0 0] (by rfl) rfl HNew.out (by intro u hu; simp at hu; rcases hu with rfl | rfl | rfl | rfl <;> rfl) (by decide) (by unfold maxLen; omega) (by omega) (by simp; omega) (w13.heap.size + 1) (by simp) ?_
    intro g' cap' w15 hown' hgrow hat hglt
    have BP := Lib.hid (HPd.out.off (Keeps.row hgrow) (ownOff HOX.out) (by decide))
    have BN10 := HNd.out.grown hgrow HNA.out
    have p0 := (BP.out.cell 3).trans hq
    have pz := BP.out.frozen 3
    have m0 := BN10.cell 0
    have m1 := BN10.cell 1
    have m2 := BN10.cell 2
    have m3 := BN10.cell 3
    rw [← hw14] at hgrow HOX
    have R15 := Lib.hid (HRd.out.off (Keeps.row hgrow) (ownOff HOX.out) (by decide) (by decide))
    have U15 := Lib.hid (HU14.out.off (Keeps.row hgrow) (ownOff HOX.out) (by decide))
    have MN15 := Lib.hid (HMN.out.keep (Keeps.row hgrow) (ownOff HOX.out) (by decide) (by decide) (by decide))
    have M15 := Lib.hid fun x hx => (HM14.out x hx).keep (Keeps.row hgrow) (ownOff HOX.out) (by decide) (by decide) (by decide)
    have p2 := R15.out.blk.cell 2
    simp at m0 m1 m2 m3 p2
    have Hown := Lib.hid hown'
    have Hgrow := Lib.hid hgrow
    have Hat := Lib.hid hat
    clear hown' hgrow hat hglt BN10
    refine hK.out _ _ (fun _ => ⟨p2, p0, m0, m1, m2, m3⟩) (fun hHeld => ?_)
    have hHeld := hHeld (by decide)
    clear hK K
    try simp only [Ap]
    refine wpAnyE_ready (rs := [14]) (by kernel_rfl) (by simp) ?_
    refine AllReadyE.cons rfl (fun K hK => ?_) AllReadyE.nil
    go_simp
    refine hK.out _ _ (fun _ => hHeld) (fun hHeld => ?_)
    have hHeld := hHeld (by decide)
    clear hK K
    try simp only [Ap]
    refine tE 15 ?_; try simp only [Ap]
    refine wpAnyE_ready (rs := [16]) (by kernel_rfl) (by simp) ?_
    refine AllReadyE.cons rfl (fun K hK => ?_) AllReadyE.nil
    go_simp
    refine hK.out _ _ (fun h => absurd rfl h) (fun _ => ?_)
    clear hK K hHeld
    try simp only [Ap]
    refine wpAnyE_done (by kernel_rfl) ?_
    go_wp2_with fail
    have KQ := (Keeps.refl (fun x => x = P) w15).setCell (p := ⟨P, 3, none⟩) (Or.inl rfl) (.slice (some ⟨g', 0, none⟩) (T + 1) cap')
    have OQ : Off (fun x => x = P) w15 [26] := fun k hk => ⟨_, _, _, by subst hk; exact BP.out, by simp⟩
    have K2 := (Keeps.grown (FIN.out _ HKd.out) Hgrow.out fun k hk => Or.inl (Or.inr (Or.inr (Or.inl hk)))).setCell (p := ⟨P, 3, none⟩) (Or.inl (Or.inr (Or.inl rfl))) (.slice (some ⟨g', 0, none⟩) (T + 1) cap')
    have B2 : Blk (w15.setCell ⟨P, 3, none⟩ (.slice (some ⟨g', 0, none⟩) (T + 1) cap')) P 26 (pc.setIfInBounds 3 (.slice (some ⟨g', 0, none⟩) (T + 1) cap')) := BP.out.set_ 3 _
    refine ⟨rfl, _, results_none rfl _ _ _, OutR.good HRF.out K2 ⟨rfl, _, _, _, R15.out.off KQ OQ (by decide) (by decide), B2, ⟨xs ++ [⟨⟨ps, src.map (·.1), dst.map (·.1), []⟩, .slice Ap ps.length cp, .slice As src.length cs, .slice Ad dst.length cd, .slice none 0 0⟩], ?_, ?_, ?_⟩, ?_, ?_, HG2.out, by rw [List.length_append]; omega⟩⟩
    · rw [List.map_append, HXs.out]; rfl
    · rw [List.length_append, ← HT.out, acCells_snoc]
      exact own_off Hown.out KQ OQ (by decide)
    · intro x hx
      rcases List.mem_append.1 hx with hx | hx
      · exact (M15.out x hx).keep KQ OQ (by decide) (by decide) (by decide)
      · rw [List.mem_singleton.1 hx]
        exact MN15.out.keep KQ OQ (by decide) (by decide) (by decide)
    · rw [usOf_append, ← List.append_assoc]
      exact U15.out.off KQ OQ (by decide)
    · intro g hg
      have hgg : some g' = some g := hg
      injection hgg with hgg
      rcases Hat.out with h | h
      · exact Or.inl (hgg ▸ h)
      · exact Or.inr (by omega)
  rw [decide_eq_true hk2e] at hmore
  have HMore := Lib.hid hmore
  have hR := HR10.out
  rw [acceptZ_more hk2e] at hR
  obtain ⟨PO, hPO⟩ : ∃ r, r = portsT ws (k2 + 1) [] true := ⟨_, rfl⟩
  rw [← hPO] at hR
  have HRM := Lib.hid hR
  have HPO := Lib.hid hPO
  obtain ⟨pw, hpw⟩ : ∃ s, ws[k2]? = some s := ⟨_, List.getElem?_eq_getElem hk2e⟩
  have hpe := HPo.out pw hpw
  clear hR hmore HR10 hPO
  go_upto_region 10 with (go_at_call 94; (with_reducible refine HMore.out.mono ?_); rintro r w13 ⟨rfl, d13⟩)
  have RS13 := Lib.hid (RS12.out.below d13)
  have US13 := Lib.hid (US12.out.below d13)
  have R113 := Lib.hid (own_below R112.out d13)
  have R213 := Lib.hid (own_below R212.out d13)
  have R313 := Lib.hid (own_below R312.out d13)
  have NB13 := Lib.hid (NB12.out.below d13 NB12.out.lt)
  have KP13 := Lib.hid (KP12.out.trans (Keeps.of_below d13 fun k hk _ => hk))
  clear RS12 US12 R112 R212 R312 NB12 KP12
  clear d13 HMore HPo
  have hmust := RS13.out.must (by omega) W_ports
  unfold MustR at hmust
  rw [hpw] at hmust
  simp only [if_pos hpe] at hmust
  have HMust : RowKit.Hid (Calls Tryz.prog 93 #[.pointer (some ⟨b, 0, none⟩), .string ⟨#[112, 111, 114, 116, 115]⟩] w13 fun r w' => (Keeps (fun x => x = b) w13 w' ∧ Rs w' b P (k2 + 1) n lv uv2 ws) ∧ r = .returned (.tuple #[])) := Lib.hid hmust
  clear hmust hpe hpw
  go_upto_region 11 with (go_at_call 93; (with_reducible refine HMust.out.mono ?_); rintro r w14 ⟨⟨d14, e14⟩, rfl⟩)
  have OB13 : Off (fun x => x = b) w13 [81] := fun k hk => ⟨_, _, _, by subst hk; exact RS13.out.blk, by simp⟩
  have KP14 := Lib.hid (KP13.out.trans (d14.mono (T := fun x => x = b ∨ uv.ownBlock = some x) fun k _ hk => Or.inl hk))
  have RS14 := Lib.hid e14
  have US14 := Lib.hid (US13.out.off d14 OB13 (by decide))
  have NB14 := Lib.hid (NB13.out.off d14 OB13 (by decide))
  have R114 := Lib.hid (own_off R113.out d14 OB13 (by decide))
  have R214 := Lib.hid (own_off R213.out d14 OB13 (by decide))
  have R314 := Lib.hid (own_off R313.out d14 OB13 (by decide))
  clear US13 NB13 R113 R213 R313
  clear RS13 KP13 d14 e14 OB13 HMust
  obtain ⟨i0, hi, hz0, hz1, hz2⟩ := info_parts info_po
  have hNb : N ≠ b := NB14.out.ne_ RS14.out.blk (by decide)
  have hN14 := NB14.out.lt
  have HF14 : RowKit.Hid (∀ wx, Keeps (fun x => x = b ∨ x = N) w14 wx → Keeps (fun x => x = b ∨ uv.ownBlock = some x) w wx) := Lib.hid fun wx hd => KP14.out.then_ hd fun x hx => hx.elim (fun e => Or.inl (Or.inl e)) fun e => Or.inr (by omega)
  have HE14 : RowKit.Hid (∀ wx, Keeps (fun x => x = b ∨ x = N) w14 wx → Env wx) := Lib.hid fun wx hd => HEnv.out.below (below_keeps HE.out (HF14.out wx hd) (fun k hk => hk.elim (fun e => by subst e; exact hbb) fun e => (HUB.out k e).1))
  go_wp2_with fail
  go_loopw [4] (fun v4 wr => ∃ (k : Nat) (acc : List (Nat × Nat)) (first : Bool) (v : Value), v4 = .bool first ∧ 1 ≤ k ∧ k ≤ ws.length ∧ RowKit.Hid (acc.length ≤ 64) ∧ RowKit.Hid (Rs wr b P k n lv uv2 ws) ∧ RowKit.Hid (Keeps (fun x => x = b ∨ x = N) w14 wr) ∧ RowKit.Hid (Blk wr N 57 #[.slice Ap ps.length cp, .slice As src.length cs, .slice Ad dst.length cd, v]) ∧ RowKit.Hid (wr.ownsRow w14.heap.size 104 2 v acc.length (portCells acc)) ∧ RowKit.Hid (PO = portsT ws k acc first)) (fun _ wr => ws.length + 1 - nextOf wr b)
  case atStart => exact ⟨k2 + 1, [], true, _, rfl, by omega, by omega, Lib.hid (by simp), RS14, Lib.hid (Keeps.refl _ _), NB14, Lib.hid (World.ownsRow_nil _ _ _ _), HPO⟩
  case round =>
    obtain ⟨k, acc, first, v, rfl, hk3, hk, hacc, hrs, hkp, hbn, hown, hres⟩ := hrel
    have Hnx := Lib.hid hrs.out.next
    obtain ⟨A1, c1, rfl⟩ := own_shape hown.out
    obtain ⟨L, hL⟩ : ∃ l, l = acc.length := ⟨_, rfl⟩
    rw [← hL] at hown hbn
    have hacc := hacc.out
    rw [← hL] at hacc
    have HL := Lib.hid hL
    clear hL
    cases first with
    | true =>
      have RS := hrs
      have KP := hkp
      have BN := hbn
      have OW := hown
      clear hrs hkp hbn hown
      have htake := RS.out.take hk
      unfold TakeR at htake
      have HTake := Lib.hid htake
      clear htake
      have OB8 : Off (fun x => x = b) wr [81] := fun k hk => ⟨_, _, _, by subst hk; exact RS.out.blk, by simp⟩
      have HOB := Lib.hid OB8
      clear OB8
      go_wp2_with fail
      go_at_call 29
      refine HTake.out.mono ?_
      rintro r w8 ⟨⟨d8, e8⟩, h8⟩
      have KP8 := Lib.hid (KP.out.trans (d8.mono (T := fun x => x = b ∨ x = N) fun k _ hk => Or.inl hk))
      have BN8 := Lib.hid (BN.out.off d8 HOB.out (by decide))
      have OW8 := Lib.hid (own_off OW.out d8 HOB.out (by decide))
      have RS8 := Lib.hid e8
      clear RS KP BN OW d8 e8 HOB HTake
      cases hsk : ws[k]? with
      | none =>
        have hge : ws.length ≤ k := by rw [List.getElem?_eq_none_iff] at hsk; exact hsk
        rw [hsk] at h8
        simp only at h8
        subst h8
        unfold PanicAt
        exact ⟨rfl, OutR.bad ((HF14.out _ KP8.out)) (by rw [HRM.out, hres.out, portsT_none hge]; rfl)⟩
      | some s =>
      have hlt : k < ws.length := (List.getElem?_eq_some_iff.1 hsk).1
      rw [hsk] at h8
      simp only at h8
      subst h8
      have hss : s.size ≤ 2000000 := RS8.out.sizes s (List.mem_of_getElem? hsk)
      have hpt := ports_any (HE14.out _ KP8.out) s hss
      have hst := hres.out
      rw [portsT_step hsk] at hst
      obtain ⟨o, ho⟩ : ∃ o, o = portsP s := ⟨_, rfl⟩
      rw [← ho] at hpt hst
      clear ho hsk hres
      cases o with
      | none =>
        have HPt : RowKit.Hid (Calls Tryz.prog 98 #[.string s] w8 fun r w' => (∃ a b : Nat, r = .returned (.tuple #[.agg #[.int .u16 (a : Int), .int .u16 (b : Int)], .bool false])) ∧ Below w8.heap.size w8 w') := Lib.hid (hpt.mono fun r w' ⟨⟨a, b, _, _, h, _⟩, h2⟩ => ⟨⟨a, b, h⟩, h2⟩)
        have HSt := Lib.hid hst
        clear hpt hst
        go_upto_region 15 with (go_at_call 98; (with_reducible refine HPt.out.mono ?_); rintro r w9 ⟨⟨p1, p2, rfl⟩, d9⟩)
        have d10 := after d9 (boxed w9 (.cells #[.int .u16 (p1 : Int), .int .u16 (p2 : Int)] 104))
        generalize w9.alloc (.cells #[.int .u16 (p1 : Int), .int .u16 (p2 : Int)] 104) = w10 at d10 ⊢
        have RS10 := Lib.hid (RS8.out.below d10)
        have KP10 := Lib.hid (KP8.out.trans (Keeps.of_below d10 fun k hk _ => hk))
        clear RS8 KP8
        clear d10 d9 HPt
        have hun := RS10.out.unless (by omega) (by omega) false 193
        rw [atW_take hlt] at hun
        have HUn : RowKit.Hid (Calls Tryz.prog 30 #[.pointer (some ⟨b, 0, none⟩), .bool false, .int .i64 193] w10 fun r w' => r = PanicAt 193 n k ∧ Below w10.heap.size w10 w') := Lib.hid hun
        clear hun
        go_wp2_with (go_at_call 30; (with_reducible refine HUn.out.mono ?_); rintro r w11 ⟨rfl, d11⟩; unfold PanicAt)
        exact ⟨rfl, OutR.bad ((HF14.out _ (KP10.out.trans (Keeps.of_below d11 fun k hk _ => hk)))) (by rw [HRM.out, HSt.out]; rfl)⟩
      | some pp =>
      obtain ⟨p1, p2⟩ := pp
      have HPt : RowKit.Hid (Calls Tryz.prog 98 #[.string s] w8 (Got (.tuple #[.agg #[.int .u16 (p1 : Int), .int .u16 (p2 : Int)], .bool true]) w8)) := Lib.hid (hpt.mono fun r w' ⟨⟨a, b, _, _, h, h3⟩, h2⟩ => ⟨by have := h3 _ rfl; injection this with e1 e2; subst e1 e2; exact h, h2⟩)
      have HSt := Lib.hid hst
      clear hpt hst
      go_upto_region 15 with (go_at_call 98; (with_reducible refine HPt.out.mono ?_); rintro r w9 ⟨rfl, d9⟩)
      have d10 := after d9 (boxed w9 (.cells #[.int .u16 (p1 : Int), .int .u16 (p2 : Int)] 104))
      have MB10 := Lib.hid (Blk.new w9 104 #[.int .u16 (p1 : Int), .int .u16 (p2 : Int)])
      have hM9 := d9.size
      generalize w9.alloc (.cells #[.int .u16 (p1 : Int), .int .u16 (p2 : Int)] 104) = w10 at d10 MB10 ⊢
      generalize w9.heap.size = M at hM9 MB10 ⊢
      have RS10 := Lib.hid (RS8.out.below d10)
      have KP10 := Lib.hid (KP8.out.trans (Keeps.of_below d10 fun k hk _ => hk))
      have BN10 := Lib.hid (BN8.out.below d10 BN8.out.lt)
      have OW10 := Lib.hid (own_below OW8.out d10)
      clear RS8 KP8 BN8 OW8
      clear d10 d9 HPt
      have hun := RS10.out.unless (by omega) (by omega) true 193
      have HUn : RowKit.Hid (Calls Tryz.prog 30 #[.pointer (some ⟨b, 0, none⟩), .bool true, .int .i64 193] w10 fun r w' => r = .returned (.tuple #[]) ∧ Below w10.heap.size w10 w') := Lib.hid hun
      clear hun
      go_upto_region 16 with (go_at_call 30; (with_reducible refine HUn.out.mono ?_); rintro r w11 ⟨rfl, d11⟩)
      have RS11 := Lib.hid (RS10.out.below d11)
      have KP11 := Lib.hid (KP10.out.trans (Keeps.of_below d11 fun k hk _ => hk))
      have BN11 := Lib.hid (BN10.out.below d11 BN10.out.lt)
      have OW11 := Lib.hid (own_below OW10.out d11)
      have MB11 := Lib.hid (MB10.out.below d11 MB10.out.lt)
      clear RS10 KP10 BN10 OW10 MB10
      clear d11 HUn
      have x3 := BN11.out.cell 3
      simp at x3
      have hro := RS11.out.room (by omega) (by omega) L
      rw [atW_take hlt] at hro
      have HRo := Lib.hid hro
      clear hro
      by_cases h64 : 64 ≤ L
      · have hR := HSt.out
        try simp only at hR
        rw [← HL.out, if_pos h64] at hR
        rw [decide_eq_false (by omega)] at HRo
        have HRoo : RowKit.Hid (Calls Tryz.prog 91 #[.pointer (some ⟨b, 0, none⟩), .int .i64 (L : Int)] w11 fun r w' => r = PanicAt 198 n k ∧ Below w11.heap.size w11 w') := HRo
        have HRz := Lib.hid hR
        clear HRo hR HSt h64
        go_wp2_with (go_at_call 91; (with_reducible refine HRoo.out.mono ?_); rintro r w12 ⟨rfl, d12⟩; unfold PanicAt)
        exact ⟨rfl, OutR.bad ((HF14.out _ (KP11.out.trans (Keeps.of_below d12 fun k hk _ => hk)))) (by rw [HRM.out, HRz.out]; rfl)⟩
      have hR := HSt.out
      try simp only at hR
      rw [← HL.out, if_neg h64] at hR
      rw [decide_eq_true (by omega)] at HRo
      have HRoo : RowKit.Hid (Calls Tryz.prog 91 #[.pointer (some ⟨b, 0, none⟩), .int .i64 (L : Int)] w11 fun r w' => r = .returned (.tuple #[]) ∧ Below w11.heap.size w11 w') := HRo
      have HStep := Lib.hid hR
      clear HRo hR HSt
      go_upto_region 17 with (go_at_call 91; (with_reducible refine HRoo.out.mono ?_); rintro r w12 ⟨rfl, d12⟩)
      have RS12 := Lib.hid (RS11.out.below d12)
      have KP12 := Lib.hid (KP11.out.trans (Keeps.of_below d12 fun k hk _ => hk))
      have BN12 := Lib.hid (BN11.out.below d12 BN11.out.lt)
      have OW12 := Lib.hid (own_below OW11.out d12)
      have MB12 := Lib.hid (MB11.out.below d12 MB11.out.lt)
      clear RS11 KP11 BN11 OW11 MB11
      clear d12 HRoo x3
      have x3 := BN12.out.cell 3
      have m0 := MB12.out.cell 0
      have m1 := MB12.out.cell 1
      simp at x3 m0 m1
      have hsz12 := KP12.out.size
      go_wp2_with (at_builtin; refine wpList_append_lies _ rfl _ _ 55 rfl w14.heap.size 104 i0 (.agg #[.int .u16 0, .int .u16 0]) 2 4 Tryz.underlying55 hi hz0 hz1 hz2 rfl (by decide) _ L _ rfl (OW12.out.alloc _) ⟨w12.heap.size, 0, none⟩ 1 1 [.int .u16 (p1 : Int), .int .u16 (p2 : Int)] rfl rfl (cells_new w12 [.int .u16 (p1 : Int), .int .u16 (p2 : Int)] 104) (by intro u hu; simp at hu; rcases hu with rfl | rfl <;> rfl) (by decide) (by unfold maxLen; omega) (by omega) (by simp; omega) (w12.heap.size + 1) (by simp) ?_; intro g' cap' w15 hown' hgrow hat hglt; have BN15 := Lib.hid ((BN12.out.alloc (.cells #[.int .u16 (p1 : Int), .int .u16 (p2 : Int)] 104)).off (Keeps.row hgrow) (ownOff (OW12.out.alloc (.cells #[.int .u16 (p1 : Int), .int .u16 (p2 : Int)] 104))) (by decide)); have x15 := BN15.out.cell 3; simp at x15; have z15 := BN15.out.frozen 3; have Hown := Lib.hid hown'; have Hgrow := Lib.hid hgrow; clear hown' hgrow hat hglt)
      have KS : Keeps (fun k => (Value.slice A1 L c1).ownBlock = some k) (w12.alloc (.cells #[.int .u16 (p1 : Int), .int .u16 (p2 : Int)] 104)) w15 := Keeps.row Hgrow.out
      have OS := ownOff (OW12.out.alloc (.cells #[.int .u16 (p1 : Int), .int .u16 (p2 : Int)] 104))
      have RS15 := (RS12.out.alloc (.cells #[.int .u16 (p1 : Int), .int .u16 (p2 : Int)] 104)).off KS OS (by decide) (by decide)
      have KP15 := Keeps.grown (KP12.out.alloc (.cells #[.int .u16 (p1 : Int), .int .u16 (p2 : Int)] 104)) Hgrow.out fun g hg => Or.inr (OW12.out.lt g hg).1
      have KP16 := KP15.setCell (p := ⟨N, 3, none⟩) (Or.inl (Or.inr rfl)) (.slice (some ⟨g', 0, none⟩) (L + 1) cap')
      have KN := (Keeps.refl (fun x => x = N) w15).setCell (p := ⟨N, 3, none⟩) (Or.inl rfl) (.slice (some ⟨g', 0, none⟩) (L + 1) cap')
      have ON : Off (fun x => x = N) w15 [57] := fun k hk => ⟨_, _, _, by subst hk; exact BN15.out, by simp⟩
      have RS16 := RS15.off KN ON (by decide) (by decide)
      have OW16 := own_off Hown.out KN ON (by decide)
      have BN16 : Blk (w15.setCell ⟨N, 3, none⟩ (.slice (some ⟨g', 0, none⟩) (L + 1) cap')) N 57 #[.slice Ap ps.length cp, .slice As src.length cs, .slice Ad dst.length cd, .slice (some ⟨g', 0, none⟩) (L + 1) cap'] := BN15.out.set_ 3 _
      refine ⟨⟨k + 1, acc ++ [(p1, p2)], false, _, rfl, by omega, by omega, Lib.hid (by rw [List.length_append, ← HL.out]; simp; omega), Lib.hid RS16, Lib.hid KP16, Lib.hid BN16, Lib.hid (by rw [List.length_append, ← HL.out, portCells_snoc]; exact OW16), HStep⟩, ?_⟩
      rw [RS16.next, Hnx.out]
      omega
    | false =>
      have hmore := Lib.hid hrs.out.more
      by_cases hlt0 : k < ws.length
      · rw [decide_eq_true hlt0] at hmore
        go_upto_region 14 with (go_at_call 94; (with_reducible refine hmore.out.mono ?_); rintro r w7 ⟨rfl, d7⟩)
        have RS := Lib.hid (hrs.out.below d7)
        have KP := Lib.hid (hkp.out.trans (Keeps.of_below d7 fun k hk _ => hk))
        have BN := Lib.hid (hbn.out.below d7 hbn.out.lt)
        have OW := Lib.hid (own_below hown.out d7)
        clear hrs hkp hbn hown hmore d7
        have htake := RS.out.take hk
        unfold TakeR at htake
        have HTake := Lib.hid htake
        clear htake
        have OB8 : Off (fun x => x = b) w7 [81] := fun k hk => ⟨_, _, _, by subst hk; exact RS.out.blk, by simp⟩
        have HOB := Lib.hid OB8
        clear OB8
        go_wp2_with fail
        go_at_call 29
        refine HTake.out.mono ?_
        rintro r w8 ⟨⟨d8, e8⟩, h8⟩
        have KP8 := Lib.hid (KP.out.trans (d8.mono (T := fun x => x = b ∨ x = N) fun k _ hk => Or.inl hk))
        have BN8 := Lib.hid (BN.out.off d8 HOB.out (by decide))
        have OW8 := Lib.hid (own_off OW.out d8 HOB.out (by decide))
        have RS8 := Lib.hid e8
        clear RS KP BN OW d8 e8 HOB HTake
        cases hsk : ws[k]? with
        | none =>
          have hge : ws.length ≤ k := by rw [List.getElem?_eq_none_iff] at hsk; exact hsk
          rw [hsk] at h8
          simp only at h8
          subst h8
          unfold PanicAt
          exact ⟨rfl, OutR.bad ((HF14.out _ KP8.out)) (absurd hge (by omega))⟩
        | some s =>
        have hlt : k < ws.length := (List.getElem?_eq_some_iff.1 hsk).1
        rw [hsk] at h8
        simp only at h8
        subst h8
        have hss : s.size ≤ 2000000 := RS8.out.sizes s (List.mem_of_getElem? hsk)
        have hpt := ports_any (HE14.out _ KP8.out) s hss
        have hst := hres.out
        rw [portsT_step hsk] at hst
        obtain ⟨o, ho⟩ : ∃ o, o = portsP s := ⟨_, rfl⟩
        rw [← ho] at hpt hst
        clear ho hsk hres
        cases o with
        | none =>
          have HPt : RowKit.Hid (Calls Tryz.prog 98 #[.string s] w8 fun r w' => (∃ a b : Nat, r = .returned (.tuple #[.agg #[.int .u16 (a : Int), .int .u16 (b : Int)], .bool false])) ∧ Below w8.heap.size w8 w') := Lib.hid (hpt.mono fun r w' ⟨⟨a, b, _, _, h, _⟩, h2⟩ => ⟨⟨a, b, h⟩, h2⟩)
          have HSt := Lib.hid hst
          clear hpt hst
          go_upto_region 15 with (go_at_call 98; (with_reducible refine HPt.out.mono ?_); rintro r w9 ⟨⟨p1, p2, rfl⟩, d9⟩)
          have d10 := after d9 (boxed w9 (.cells #[.int .u16 (p1 : Int), .int .u16 (p2 : Int)] 104))
          generalize w9.alloc (.cells #[.int .u16 (p1 : Int), .int .u16 (p2 : Int)] 104) = w10 at d10 ⊢
          have RS10 := Lib.hid (RS8.out.below d10)
          have KP10 := Lib.hid (KP8.out.trans (Keeps.of_below d10 fun k hk _ => hk))
          clear RS8 KP8
          clear d10 d9 HPt
          have hun := RS10.out.unless (by omega) (by omega) false 193
          rw [atW_take hlt] at hun
          have HUn : RowKit.Hid (Calls Tryz.prog 30 #[.pointer (some ⟨b, 0, none⟩), .bool false, .int .i64 193] w10 fun r w' => r = PanicAt 193 n k ∧ Below w10.heap.size w10 w') := Lib.hid hun
          clear hun
          go_wp2_with (go_at_call 30; (with_reducible refine HUn.out.mono ?_); rintro r w11 ⟨rfl, d11⟩; unfold PanicAt)
          exact ⟨rfl, OutR.bad ((HF14.out _ (KP10.out.trans (Keeps.of_below d11 fun k hk _ => hk)))) (by rw [HRM.out, HSt.out]; rfl)⟩
        | some pp =>
        obtain ⟨p1, p2⟩ := pp
        have HPt : RowKit.Hid (Calls Tryz.prog 98 #[.string s] w8 (Got (.tuple #[.agg #[.int .u16 (p1 : Int), .int .u16 (p2 : Int)], .bool true]) w8)) := Lib.hid (hpt.mono fun r w' ⟨⟨a, b, _, _, h, h3⟩, h2⟩ => ⟨by have := h3 _ rfl; injection this with e1 e2; subst e1 e2; exact h, h2⟩)
        have HSt := Lib.hid hst
        clear hpt hst
        go_upto_region 15 with (go_at_call 98; (with_reducible refine HPt.out.mono ?_); rintro r w9 ⟨rfl, d9⟩)
        have d10 := after d9 (boxed w9 (.cells #[.int .u16 (p1 : Int), .int .u16 (p2 : Int)] 104))
        have MB10 := Lib.hid (Blk.new w9 104 #[.int .u16 (p1 : Int), .int .u16 (p2 : Int)])
        have hM9 := d9.size
        generalize w9.alloc (.cells #[.int .u16 (p1 : Int), .int .u16 (p2 : Int)] 104) = w10 at d10 MB10 ⊢
        generalize w9.heap.size = M at hM9 MB10 ⊢
        have RS10 := Lib.hid (RS8.out.below d10)
        have KP10 := Lib.hid (KP8.out.trans (Keeps.of_below d10 fun k hk _ => hk))
        have BN10 := Lib.hid (BN8.out.below d10 BN8.out.lt)
        have OW10 := Lib.hid (own_below OW8.out d10)
        clear RS8 KP8 BN8 OW8
        clear d10 d9 HPt
        have hun := RS10.out.unless (by omega) (by omega) true 193
        have HUn : RowKit.Hid (Calls Tryz.prog 30 #[.pointer (some ⟨b, 0, none⟩), .bool true, .int .i64 193] w10 fun r w' => r = .returned (.tuple #[]) ∧ Below w10.heap.size w10 w') := Lib.hid hun
        clear hun
        go_upto_region 16 with (go_at_call 30; (with_reducible refine HUn.out.mono ?_); rintro r w11 ⟨rfl, d11⟩)
        have RS11 := Lib.hid (RS10.out.below d11)
        have KP11 := Lib.hid (KP10.out.trans (Keeps.of_below d11 fun k hk _ => hk))
        have BN11 := Lib.hid (BN10.out.below d11 BN10.out.lt)
        have OW11 := Lib.hid (own_below OW10.out d11)
        have MB11 := Lib.hid (MB10.out.below d11 MB10.out.lt)
        clear RS10 KP10 BN10 OW10 MB10
        clear d11 HUn
        have x3 := BN11.out.cell 3
        simp at x3
        have hro := RS11.out.room (by omega) (by omega) L
        rw [atW_take hlt] at hro
        have HRo := Lib.hid hro
        clear hro
        by_cases h64 : 64 ≤ L
        · have hR := HSt.out
          try simp only at hR
          rw [← HL.out, if_pos h64] at hR
          rw [decide_eq_false (by omega)] at HRo
          have HRoo : RowKit.Hid (Calls Tryz.prog 91 #[.pointer (some ⟨b, 0, none⟩), .int .i64 (L : Int)] w11 fun r w' => r = PanicAt 198 n k ∧ Below w11.heap.size w11 w') := HRo
          have HRz := Lib.hid hR
          clear HRo hR HSt h64
          go_wp2_with (go_at_call 91; (with_reducible refine HRoo.out.mono ?_); rintro r w12 ⟨rfl, d12⟩; unfold PanicAt)
          exact ⟨rfl, OutR.bad ((HF14.out _ (KP11.out.trans (Keeps.of_below d12 fun k hk _ => hk)))) (by rw [HRM.out, HRz.out]; rfl)⟩
        have hR := HSt.out
        try simp only at hR
        rw [← HL.out, if_neg h64] at hR
        rw [decide_eq_true (by omega)] at HRo
        have HRoo : RowKit.Hid (Calls Tryz.prog 91 #[.pointer (some ⟨b, 0, none⟩), .int .i64 (L : Int)] w11 fun r w' => r = .returned (.tuple #[]) ∧ Below w11.heap.size w11 w') := HRo
        have HStep := Lib.hid hR
        clear HRo hR HSt
        go_upto_region 17 with (go_at_call 91; (with_reducible refine HRoo.out.mono ?_); rintro r w12 ⟨rfl, d12⟩)
        have RS12 := Lib.hid (RS11.out.below d12)
        have KP12 := Lib.hid (KP11.out.trans (Keeps.of_below d12 fun k hk _ => hk))
        have BN12 := Lib.hid (BN11.out.below d12 BN11.out.lt)
        have OW12 := Lib.hid (own_below OW11.out d12)
        have MB12 := Lib.hid (MB11.out.below d12 MB11.out.lt)
        clear RS11 KP11 BN11 OW11 MB11
        clear d12 HRoo x3
        have x3 := BN12.out.cell 3
        have m0 := MB12.out.cell 0
        have m1 := MB12.out.cell 1
        simp at x3 m0 m1
        have hsz12 := KP12.out.size
        go_wp2_with (at_builtin; refine wpList_append_lies _ rfl _ _ 55 rfl w14.heap.size 104 i0 (.agg #[.int .u16 0, .int .u16 0]) 2 4 Tryz.underlying55 hi hz0 hz1 hz2 rfl (by decide) _ L _ rfl (OW12.out.alloc _) ⟨w12.heap.size, 0, none⟩ 1 1 [.int .u16 (p1 : Int), .int .u16 (p2 : Int)] rfl rfl (cells_new w12 [.int .u16 (p1 : Int), .int .u16 (p2 : Int)] 104) (by intro u hu; simp at hu; rcases hu with rfl | rfl <;> rfl) (by decide) (by unfold maxLen; omega) (by omega) (by simp; omega) (w12.heap.size + 1) (by simp) ?_; intro g' cap' w15 hown' hgrow hat hglt; have BN15 := Lib.hid ((BN12.out.alloc (.cells #[.int .u16 (p1 : Int), .int .u16 (p2 : Int)] 104)).off (Keeps.row hgrow) (ownOff (OW12.out.alloc (.cells #[.int .u16 (p1 : Int), .int .u16 (p2 : Int)] 104))) (by decide)); have x15 := BN15.out.cell 3; simp at x15; have z15 := BN15.out.frozen 3; have Hown := Lib.hid hown'; have Hgrow := Lib.hid hgrow; clear hown' hgrow hat hglt)
        have KS : Keeps (fun k => (Value.slice A1 L c1).ownBlock = some k) (w12.alloc (.cells #[.int .u16 (p1 : Int), .int .u16 (p2 : Int)] 104)) w15 := Keeps.row Hgrow.out
        have OS := ownOff (OW12.out.alloc (.cells #[.int .u16 (p1 : Int), .int .u16 (p2 : Int)] 104))
        have RS15 := (RS12.out.alloc (.cells #[.int .u16 (p1 : Int), .int .u16 (p2 : Int)] 104)).off KS OS (by decide) (by decide)
        have KP15 := Keeps.grown (KP12.out.alloc (.cells #[.int .u16 (p1 : Int), .int .u16 (p2 : Int)] 104)) Hgrow.out fun g hg => Or.inr (OW12.out.lt g hg).1
        have KP16 := KP15.setCell (p := ⟨N, 3, none⟩) (Or.inl (Or.inr rfl)) (.slice (some ⟨g', 0, none⟩) (L + 1) cap')
        have KN := (Keeps.refl (fun x => x = N) w15).setCell (p := ⟨N, 3, none⟩) (Or.inl rfl) (.slice (some ⟨g', 0, none⟩) (L + 1) cap')
        have ON : Off (fun x => x = N) w15 [57] := fun k hk => ⟨_, _, _, by subst hk; exact BN15.out, by simp⟩
        have RS16 := RS15.off KN ON (by decide) (by decide)
        have OW16 := own_off Hown.out KN ON (by decide)
        have BN16 : Blk (w15.setCell ⟨N, 3, none⟩ (.slice (some ⟨g', 0, none⟩) (L + 1) cap')) N 57 #[.slice Ap ps.length cp, .slice As src.length cs, .slice Ad dst.length cd, .slice (some ⟨g', 0, none⟩) (L + 1) cap'] := BN15.out.set_ 3 _
        refine ⟨⟨k + 1, acc ++ [(p1, p2)], false, _, rfl, by omega, by omega, Lib.hid (by rw [List.length_append, ← HL.out]; simp; omega), Lib.hid RS16, Lib.hid KP16, Lib.hid BN16, Lib.hid (by rw [List.length_append, ← HL.out, portCells_snoc]; exact OW16), HStep⟩, ?_⟩
        rw [RS16.next, Hnx.out]
        omega
      · rw [decide_eq_false hlt0] at hmore
        have hR := hres.out
        rw [portsT_end (by omega)] at hR
        have HRF : RowKit.Hid (RES = .ok (⟨ps, src.map (·.1), dst.map (·.1), acc⟩, src ++ dst)) := Lib.hid (by rw [HRM.out, hR]; rfl)
        have OK : Off (fun x => x = b ∨ x = N) w14 [81, 57] := fun k hk => hk.elim (fun e => ⟨_, _, _, by subst e; exact RS14.out.blk, by simp⟩) (fun e => ⟨_, _, _, by subst e; exact NB14.out, by simp⟩)
        have HOK := Lib.hid OK
        clear hR hres OK
        go_upto_region 18 with (go_at_call 94; (with_reducible refine hmore.out.mono ?_); rintro r w20 ⟨rfl, d20⟩)
        have KK := hkp.out.trans (Keeps.of_below d20 fun k hk _ => hk)
        have RS20 := Lib.hid (hrs.out.below d20)
        have KP20 := Lib.hid (HF14.out _ KK)
        have NB20 := Lib.hid (hbn.out.below d20 hbn.out.lt)
        have US20 := Lib.hid (US14.out.off KK HOK.out (by decide))
        have R120 := Lib.hid (own_off R114.out KK HOK.out (by decide))
        have R220 := Lib.hid (own_off R214.out KK HOK.out (by decide))
        have R320 := Lib.hid (own_off R314.out KK HOK.out (by decide))
        clear US14 R114 R214 R314
        have R420 : RowKit.Hid (w20.ownsRow w0.heap.size 104 2 (.slice A1 L c1) acc.length (portCells acc)) := Lib.hid (by rw [← HL.out]; exact (own_below hown.out d20).mono (by have := KP14.out.size; omega))
        clear KK HOK d20 hmore hrs hkp hbn hown HF14 HE14 NB14 RS14 KP14
        have hszE : w.heap.size ≤ w20.heap.size := KP20.out.size
        have PE := Lib.hid (HP.out.off KP20.out HOff.out (by decide))
        obtain ⟨xs, hxs, hac, hmem⟩ := HN.out.off KP20.out HOff.out (by decide) (by decide) (by decide) (by decide)
        have HNA : RowKit.Hid (some N ≠ (Value.slice A T cap).ownBlock) := Lib.hid fun e => by
          obtain ⟨xs, _, ho, _⟩ := HN.out
          have := (ho.lt N e.symm).2
          omega
        rw [← HT.out] at hac
        have HXs := Lib.hid hxs
        have x0 := (PE.out.cell 3).trans hq
        have x2 := RS20.out.blk.cell 2
        have n0 := NB20.out.cell 0
        have n1 := NB20.out.cell 1
        have n2 := NB20.out.cell 2
        have n3 := NB20.out.cell 3
        simp at x2 n0 n1 n2 n3
        obtain ⟨w14, hw14⟩ : ∃ x, x = (w20.alloc (.cells #[.slice Ap ps.length cp, .slice As src.length cs, .slice Ad dst.length cd, .slice A1 L c1] 57)).drew := ⟨_, rfl⟩
        have HOX : RowKit.Hid (w14.ownsRow w0.heap.size 57 4 (.slice A T cap) T (acCells xs)) := Lib.hid (by rw [hw14]; exact hac.alloc _)
        have HNew : RowKit.Hid (∀ j u, [.slice Ap ps.length cp, .slice As src.length cs, .slice Ad dst.length cd, .slice A1 L c1][j]? = some u → w14.cell? ((⟨w20.heap.size, 0, none⟩ : Addr).add j) = some u) := Lib.hid (by rw [hw14]; exact cells_new w20 [.slice Ap ps.length cp, .slice As src.length cs, .slice Ad dst.length cd, .slice A1 L c1] 57)
        have HPd : RowKit.Hid (Blk w14 P 26 pc) := Lib.hid (by rw [hw14]; exact PE.out.alloc _)
        have HNd : RowKit.Hid (Blk w14 N 57 #[.slice Ap ps.length cp, .slice As src.length cs, .slice Ad dst.length cd, .slice A1 L c1]) := Lib.hid (by rw [hw14]; exact NB20.out.alloc _)
        have HRd : RowKit.Hid (Rs w14 b P k n lv uv2 ws) := Lib.hid (by rw [hw14]; exact ⟨(RS20.out.alloc _).blk, (RS20.out.alloc _).row, RS20.out.ne, RS20.out.len, RS20.out.sizes⟩)
        have HKd : RowKit.Hid (Keeps (fun x => x = b ∨ uv.ownBlock = some x) w w14) := Lib.hid (by rw [hw14]; exact (KP20.out.alloc _).drew)
        have bE : Below w20.heap.size w20 w14 := by rw [hw14]; have q := boxed w20 (.cells #[.slice Ap ps.length cp, .slice As src.length cs, .slice Ad dst.length cd, .slice A1 L c1] 57); exact ⟨q.os, q.tape, q.output, q.size, q.block⟩
        have HM14 : RowKit.Hid (∀ x ∈ xs, AcMem w14 w0.heap.size x) := Lib.hid fun x hx => ⟨own_below (hmem x hx).p bE, own_below (hmem x hx).s bE, own_below (hmem x hx).d bE, own_below (hmem x hx).o bE⟩
        have HU14 := Lib.hid (US20.out.below bE)
        have HMN : RowKit.Hid (AcMem w14 w0.heap.size ⟨⟨ps, src.map (·.1), dst.map (·.1), acc⟩, .slice Ap ps.length cp, .slice As src.length cs, .slice Ad dst.length cd, .slice A1 L c1⟩) := Lib.hid ⟨own_below R120.out bE, by rw [List.length_map]; exact own_below R220.out bE, by rw [List.length_map]; exact own_below R320.out bE, own_below R420.out bE⟩
        have hs14 : w14.heap.size = w20.heap.size + 1 := by rw [hw14]; simp
        have y0 := (HPd.out.cell 3).trans hq
        have y2 := HRd.out.blk.cell 2
        have v0 := HNd.out.cell 0
        have v1 := HNd.out.cell 1
        have v2 := HNd.out.cell 2
        have v3 := HNd.out.cell 3
        simp at y2 v0 v1 v2 v3
        clear hxs hac hmem bE US20 RS20 PE NB20 R120 R220 R320 R420 KP20
        rw [hw14] at HOX HNew HPd HNd y0 y2 v0 v1 v2 v3
        refine wp_region_E 16 (fun w' => w'.cell? ⟨b, 2, none⟩ = some (.pointer (some ⟨P, 0, none⟩)) ∧ w'.cell? ⟨P, 3, none⟩ = some (.slice A T cap) ∧ w'.cell? ⟨N, 0, none⟩ = some (.slice Ap ps.length cp) ∧ w'.cell? ⟨N, 1, none⟩ = some (.slice As src.length cs) ∧ w'.cell? ⟨N, 2, none⟩ = some (.slice Ad dst.length cd) ∧ w'.cell? ⟨N, 3, none⟩ = some (.slice A1 L c1)) (by kernel_rfl) (⟨x2, x0, n0, n1, n2, n3⟩) (fun hHeld => ?_)
        refine tE 0 ?_; try simp only [Ap]
        refine tE 1 ?_; try simp only [Ap]
        refine tE 2 ?_; try simp only [Ap]
        refine tE 3 ?_; try simp only [Ap]
        refine tE 4 ?_; try simp only [Ap]
        refine tE 5 ?_; try simp only [Ap]
        refine tE 6 ?_; try simp only [Ap]
        refine tE 7 ?_; try simp only [Ap]
        refine tE 8 ?_; try simp only [Ap]
        refine tE 9 ?_; try simp only [Ap]
        refine tE 10 ?_; try simp only [Ap]
        refine tE 11 ?_; try simp only [Ap]
        refine wpAnyE_ready (rs := [12]) (by kernel_rfl) (by simp) ?_
        refine AllReadyE.cons rfl (fun K hK => ?_) AllReadyE.nil
        go_simp
        skip
        refine hK.out _ _ (fun _ => ⟨y2, y0, v0, v1, v2, v3⟩) (fun hHeld => ?_)
        have hHeld := hHeld (by decide)
        clear hK K
        try simp only [Ap]
        refine wpAnyE_ready (rs := [13]) (by kernel_rfl) (by simp) ?_
        refine AllReadyE.cons rfl (fun K hK => ?_) AllReadyE.nil
        refine step_append_lies _ (by rfl) _ _ _ (by rfl) w0.heap.size 57 j0 (.agg #[.slice none 0 0, .slice none 0 0, .slice none 0 0, .slice none 0 0]) 4 96 Tryz.underlying24 hj hj0 hj1 hj2 rfl (by decide) _ T _ (by rfl) HOX.out ⟨w20.heap.size, 0, none⟩ 1 1 [.slice Ap ps.length cp, .slice As src.length cs, .slice Ad dst.length cd, .slice A1 L c1] (by rfl) rfl HNew.out (by intro u hu; simp at hu; rcases hu with rfl | rfl | rfl | rfl <;> rfl) (by decide) (by unfold maxLen; omega) (by omega) (by simp; omega) (w20.heap.size + 1) (by simp) ?_
        intro g' cap' w15 hown' hgrow hat hglt
        have BP := Lib.hid (HPd.out.off (Keeps.row hgrow) (ownOff HOX.out) (by decide))
        have BN10 := HNd.out.grown hgrow HNA.out
        have p0 := (BP.out.cell 3).trans hq
        have pz := BP.out.frozen 3
        have m0 := BN10.cell 0
        have m1 := BN10.cell 1
        have m2 := BN10.cell 2
        have m3 := BN10.cell 3
        rw [← hw14] at hgrow HOX
        have R15 := Lib.hid (HRd.out.off (Keeps.row hgrow) (ownOff HOX.out) (by decide) (by decide))
        have U15 := Lib.hid (HU14.out.off (Keeps.row hgrow) (ownOff HOX.out) (by decide))
        have MN15 := Lib.hid (HMN.out.keep (Keeps.row hgrow) (ownOff HOX.out) (by decide) (by decide) (by decide))
        have M15 := Lib.hid fun x hx => (HM14.out x hx).keep (Keeps.row hgrow) (ownOff HOX.out) (by decide) (by decide) (by decide)
        have p2 := R15.out.blk.cell 2
        simp at m0 m1 m2 m3 p2
        have Hown := Lib.hid hown'
        have Hgrow := Lib.hid hgrow
        have Hat := Lib.hid hat
        clear hown' hgrow hat hglt BN10
        refine hK.out _ _ (fun _ => ⟨p2, p0, m0, m1, m2, m3⟩) (fun hHeld => ?_)
        have hHeld := hHeld (by decide)
        clear hK K
        try simp only [Ap]
        refine wpAnyE_ready (rs := [14]) (by kernel_rfl) (by simp) ?_
        refine AllReadyE.cons rfl (fun K hK => ?_) AllReadyE.nil
        go_simp
        refine hK.out _ _ (fun _ => hHeld) (fun hHeld => ?_)
        have hHeld := hHeld (by decide)
        clear hK K
        try simp only [Ap]
        refine tE 15 ?_; try simp only [Ap]
        refine wpAnyE_ready (rs := [16]) (by kernel_rfl) (by simp) ?_
        refine AllReadyE.cons rfl (fun K hK => ?_) AllReadyE.nil
        go_simp
        refine hK.out _ _ (fun h => absurd rfl h) (fun _ => ?_)
        clear hK K hHeld
        try simp only [Ap]
        refine wpAnyE_done (by kernel_rfl) ?_
        go_wp2_with fail
        have KQ := (Keeps.refl (fun x => x = P) w15).setCell (p := ⟨P, 3, none⟩) (Or.inl rfl) (.slice (some ⟨g', 0, none⟩) (T + 1) cap')
        have OQ : Off (fun x => x = P) w15 [26] := fun k hk => ⟨_, _, _, by subst hk; exact BP.out, by simp⟩
        have K2 := (Keeps.grown (FIN.out _ HKd.out) Hgrow.out fun k hk => Or.inl (Or.inr (Or.inr (Or.inl hk)))).setCell (p := ⟨P, 3, none⟩) (Or.inl (Or.inr (Or.inl rfl))) (.slice (some ⟨g', 0, none⟩) (T + 1) cap')
        have B2 : Blk (w15.setCell ⟨P, 3, none⟩ (.slice (some ⟨g', 0, none⟩) (T + 1) cap')) P 26 (pc.setIfInBounds 3 (.slice (some ⟨g', 0, none⟩) (T + 1) cap')) := BP.out.set_ 3 _
        refine ⟨rfl, _, results_none rfl _ _ _, OutR.good HRF.out K2 ⟨rfl, _, _, _, R15.out.off KQ OQ (by decide) (by decide), B2, ⟨xs ++ [⟨⟨ps, src.map (·.1), dst.map (·.1), acc⟩, .slice Ap ps.length cp, .slice As src.length cs, .slice Ad dst.length cd, .slice A1 L c1⟩], ?_, ?_, ?_⟩, ?_, ?_, HG2.out, by rw [List.length_append]; omega⟩⟩
        · rw [List.map_append, HXs.out]; rfl
        · rw [List.length_append, ← HT.out, acCells_snoc]
          exact own_off Hown.out KQ OQ (by decide)
        · intro x hx
          rcases List.mem_append.1 hx with hx | hx
          · exact (M15.out x hx).keep KQ OQ (by decide) (by decide) (by decide)
          · rw [List.mem_singleton.1 hx]
            exact MN15.out.keep KQ OQ (by decide) (by decide) (by decide)
        · rw [usOf_append, ← List.append_assoc]
          exact U15.out.off KQ OQ (by decide)
        · intro g hg
          have hgg : some g' = some g := hg
          injection hgg with hgg
          rcases Hat.out with h | h
          · exact Or.inl (hgg ▸ h)
          · exact Or.inr (by omega)
end Go.Proofs.YtbiglifngfgffaaGreatDoor
