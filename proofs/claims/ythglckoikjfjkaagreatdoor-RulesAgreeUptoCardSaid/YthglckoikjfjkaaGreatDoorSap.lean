/- Joined out of: CpA. -/
import Derived.Test.YthglckoikjfjkaaGreatDoorSao
set_option linter.unusedVariables false
set_option linter.unusedSimpArgs false

/- A row that is copied by append(nil, row...): the law; the document's Copy of a policy (Copy): the walk. -/
namespace Go.Proofs.YthglckoikjfjkaaGreatDoor
open Go.RowKit
attribute [local go_sem ↓] Go.wp_at_zero Go.wp_at_succ

/- append(nil, row...). -/
theorem append_row {P : Program} (w : World) (base : Nat) (t ty e : TypeId) (i : TypeInfo) (z : Value) (size bytes : Nat) (ht : P.underlying t = some (.slice e)) (hi : P.info? e = some i) (hz : i.zero = some z)
    (hsize : i.size = size) (hby : i.bytes = bytes) (hzs : z.cells.size = size) (hsz : 0 < size) {v : Value} {n : Nat} {xs : List Value} (h : RowR w v n size xs) (h1 : ∀ u ∈ xs, u.oneCell' = true) (hn : n ≤ 4000000) (hb : bytes ≤ 4096) (hbase : base ≤ w.heap.size) :
    ∃ A c w', (Builtin.append_ #[t, t] ty #[.slice none 0 0, v]).run P w = .ok (.slice A n c) w' ∧ w'.ownsRow base e size (.slice A n c) n xs ∧ Below w.heap.size w w' := by
  obtain ⟨A, cap, rfl, hl, hc⟩ := h
  have hbytes : (0 + n) * bytes ≤ 140737488355328 := by
    have : (0 + n) * bytes ≤ 4000000 * 4096 := Nat.mul_le_mul (by omega) hb
    omega
  have hmax : 0 + n ≤ maxLen := by unfold maxLen; omega
  cases A with
  | none =>
    have h0 : n = 0 := by
      rcases Nat.eq_zero_or_pos n with h | h
      · exact h
      · obtain ⟨g, o, e1, _⟩ := hc h
        cases e1
    subst h0
    have hx : xs = [] := List.eq_nil_of_length_eq_zero (by simpa using hl)
    subst hx
    exact ⟨none, 0, w, by simp [Builtin.append_, run_underlying ht, sizeOf, typeInfo, hi, Builtin.lenOf, Builtin.firstCells], World.ownsRow_nil _ _ _ _, Below.refl _ _⟩
  | some a =>
    have hnews : ∀ j u, xs[j]? = some u → w.cell? (a.add j) = some u := by
      intro j u hu
      rcases Nat.eq_zero_or_pos n with h | h
      · subst h
        have hx : xs = [] := List.eq_nil_of_length_eq_zero (by simpa using hl)
        rw [hx] at hu
        cases hu
      · obtain ⟨g, o, e1, hcc⟩ := hc h
        injection e1 with e1
        subst e1
        rw [addr_add]
        exact hcc j u hu
    obtain ⟨v', w', hr, ho, hg, _⟩ := run_append_own (P := P) w base t ty e i z size bytes ht hi hz hsize hby hzs hsz (.slice none 0 0) 0 [] (World.ownsRow_nil _ _ _ _) a n cap xs hl hnews h1 hmax hbytes hbase
    rw [Nat.zero_add, List.nil_append] at ho
    obtain ⟨A, c, rfl⟩ := own_shape ho
    exact ⟨A, c, w', hr, ho, ⟨hg.os, hg.tape, hg.output, hg.size, fun k hk => hg.block k hk (by simp [Value.ownBlock])⟩⟩
/- At a step of a region that draws its order: an append that is known to run. -/
theorem step_append_run {P : Program} {w : World} {ops : Array Oper} {o : Oper} {a : Act} {K : Act → World → Prop} {Q : Exit → Act → World → Prop} {E : Prop} (hgd : o.guard = none) (s x : Operand) (t u : TypeId)
    (ho : o.op = .call { callee := .builtin .append, args := #[s, x], argTypes := #[t, u] }) {v y v' : Value} {w' : World} (hs : a.eval s = v) (hx : a.eval x = y)
    (hr : (Builtin.append_ #[t, u] o.type #[v, y]).run P w = .ok v' w') (h : K (a.put o.dst v') w') :
    if Region.wanted o (yielded ops a.tmps) = true then Oper.wp P o a w K Q else E := by
  have hw : Region.wanted o (yielded ops a.tmps) = true := by simp [Region.wanted, hgd]
  rw [if_pos hw]
  unfold Oper.wp execOp
  simp only [ho, resolve, invoke, builtin, Sem.run_bind, Sem.run_pure, Result.andThen_ok, List.map_toArray, List.map_cons, List.map_nil, hs, hx, hr]
  exact h
theorem one_str (l : List ByteArray) : ∀ u ∈ strCells l, u.oneCell' = true := fun u hu => by
  unfold strCells at hu
  obtain ⟨s, _, rfl⟩ := List.mem_map.1 hu
  rfl
theorem one_proto (l : List Nat) : ∀ u ∈ protoCells l, u.oneCell' = true := fun u hu => by
  unfold protoCells at hu
  obtain ⟨s, _, rfl⟩ := List.mem_map.1 hu
  rfl
theorem one_sel (l : List Sel) : ∀ u ∈ selCells l, u.oneCell' = true := fun u hu => by
  unfold selCells at hu
  obtain ⟨s, _, h⟩ := List.mem_flatMap.1 hu
  simp [Sel.cells] at h
  rcases h with rfl | rfl | rfl | rfl | rfl | rfl <;> rfl
theorem one_port (l : List (Nat × Nat)) : ∀ u ∈ portCells l, u.oneCell' = true := fun u hu => by
  unfold portCells at hu
  obtain ⟨s, _, h⟩ := List.mem_flatMap.1 hu
  simp at h
  rcases h with rfl | rfl <;> rfl
theorem one_hs (l : List Hs) : ∀ u ∈ hsCells l, u.oneCell' = true := fun u hu => by
  unfold hsCells at hu
  obtain ⟨s, _, h⟩ := List.mem_flatMap.1 hu
  simp at h
  rcases h with rfl | rfl | rfl | rfl | rfl <;> rfl
theorem Keeps.low {S : Nat → Prop} {B : Nat} {a b : World} (h : Keeps S a b) (hS : ∀ k, S k → B ≤ k) (hB : B ≤ a.heap.size) : Below B a b := h.below hS hB
set_option maxHeartbeats 16000000 in
set_option maxRecDepth 100000 in
theorem copy_any {w : World} (p : Po) {V : PoV} (h : PoRd w V p) (hf : PoFit p) :
    Calls Tryz.prog 8 #[.agg #[V.g, V.t, V.h, V.a]] w fun r w' => (∃ V' : PoV, r = .returned (.agg #[V'.g, V'.t, V'.h, V'.a]) ∧ PoRd w' V' p) ∧ Below w.heap.size w w' := by
  obtain ⟨xg, hxg, h1, i1⟩ := h.g
  obtain ⟨xt, hxt, h2, i2⟩ := h.t
  have h3 := h.h
  obtain ⟨xa, hxa, h4, i4⟩ := h.a
  obtain ⟨Ag, cg, eg⟩ := h1.shape
  obtain ⟨At, ct', et⟩ := h2.shape
  obtain ⟨Ah, ch, eh⟩ := h3.shape
  obtain ⟨Aa, ca, ea⟩ := h4.shape
  rw [eg] at h1
  rw [et] at h2
  rw [eh] at h3
  rw [ea] at h4
  rw [eg, et, eh, ea]
  clear eg et eh ea h
  obtain ⟨NG, hNG⟩ : ∃ n, n = p.groups.length := ⟨_, rfl⟩
  obtain ⟨NT, hNT⟩ : ∃ n, n = p.tags.length := ⟨_, rfl⟩
  obtain ⟨NH, hNH⟩ : ∃ n, n = p.hosts.length := ⟨_, rfl⟩
  obtain ⟨NA, hNA⟩ : ∃ n, n = p.acls.length := ⟨_, rfl⟩
  have l1 := hf.gl
  have l2 := hf.tl
  have l3 := hf.hl
  have l4 := hf.al
  rw [← hNG] at h1 l1 ⊢
  rw [← hNT] at h2 l2 ⊢
  rw [← hNH] at h3 l3 ⊢
  rw [← hNA] at h4 l4 ⊢
  have H1 := Lib.hid h1
  have H2 := Lib.hid h2
  have H3 := Lib.hid h3
  have H4 := Lib.hid h4
  have I1 := Lib.hid i1
  have I2 := Lib.hid i2
  have I4 := Lib.hid i4
  have HXg := Lib.hid hxg
  have HXt := Lib.hid hxt
  have HXa := Lib.hid hxa
  have HNG := Lib.hid hNG
  have HNT := Lib.hid hNT
  have HNH := Lib.hid hNH
  have HNA := Lib.hid hNA
  have HFit := Lib.hid hf
  clear h1 h2 h3 h4 i1 i2 i4 hxg hxt hxa hNG hNT hNH hNA hf
  obtain ⟨i0, hi, hz0, hz1, hz2⟩ := info_parts info_str
  obtain ⟨j0, hj, hj0, hj1, hj2⟩ := info_parts info_nm
  go_enter Tryz.func8, Tryz.ntmps8
  go_upto_region 2 with fail
  have HQ := Lib.hid (((Blk.new w 26 #[.slice Ag NG cg, .slice At NT ct', .slice Ah NH ch, .slice Aa NA ca]).alloc (.cells #[.slice none 0 0, .slice none 0 0, .slice none 0 0, .slice none 0 0] 26)).alloc (.cells #[.slice none 0 0, .slice none 0 0, .slice none 0 0, .slice none 0 0] 26))
  have hR := (Blk.new (w.alloc (.cells #[.slice Ag NG cg, .slice At NT ct', .slice Ah NH ch, .slice Aa NA ca] 26)) 26 #[.slice none 0 0, .slice none 0 0, .slice none 0 0, .slice none 0 0]).alloc (.cells #[.slice none 0 0, .slice none 0 0, .slice none 0 0, .slice none 0 0] 26)
  have hP := Blk.new ((w.alloc (.cells #[.slice Ag NG cg, .slice At NT ct', .slice Ah NH ch, .slice Aa NA ca] 26)).alloc (.cells #[.slice none 0 0, .slice none 0 0, .slice none 0 0, .slice none 0 0] 26)) 26 #[.slice none 0 0, .slice none 0 0, .slice none 0 0, .slice none 0 0]
  have hD := after (after (boxed w (.cells #[.slice Ag NG cg, .slice At NT ct', .slice Ah NH ch, .slice Aa NA ca] 26)) (boxed _ (.cells #[.slice none 0 0, .slice none 0 0, .slice none 0 0, .slice none 0 0] 26))) (boxed _ (.cells #[.slice none 0 0, .slice none 0 0, .slice none 0 0, .slice none 0 0] 26))
  have eR : (w.alloc (.cells #[.slice Ag NG cg, .slice At NT ct', .slice Ah NH ch, .slice Aa NA ca] 26)).heap.size = w.heap.size + 1 := by simp
  have eP : ((w.alloc (.cells #[.slice Ag NG cg, .slice At NT ct', .slice Ah NH ch, .slice Aa NA ca] 26)).alloc (.cells #[.slice none 0 0, .slice none 0 0, .slice none 0 0, .slice none 0 0] 26)).heap.size = w.heap.size + 2 := by simp
  rw [eR] at hR
  rw [eP] at hP
  clear eR eP
  have HR := Lib.hid hR
  have HP := Lib.hid hP
  have HD := Lib.hid hD
  clear hR hP hD
  generalize ((w.alloc (.cells #[.slice Ag NG cg, .slice At NT ct', .slice Ah NH ch, .slice Aa NA ca] 26)).alloc (.cells #[.slice none 0 0, .slice none 0 0, .slice none 0 0, .slice none 0 0] 26)).alloc (.cells #[.slice none 0 0, .slice none 0 0, .slice none 0 0, .slice none 0 0] 26) = w3 at HQ HR HP HD ⊢
  obtain ⟨P, hP⟩ : ∃ P, P = w.heap.size + 2 := ⟨_, rfl⟩
  obtain ⟨R, hR⟩ : ∃ R, R = w.heap.size + 1 := ⟨_, rfl⟩
  obtain ⟨Q, hQ⟩ : ∃ Q, Q = w.heap.size := ⟨_, rfl⟩
  have hQP : RowKit.Hid (¬ Q = P) := Lib.hid (by omega)
  have hRP : RowKit.Hid (¬ R = P) := Lib.hid (by omega)
  have hPw : RowKit.Hid (w.heap.size ≤ P) := Lib.hid (by omega)
  have hRw : RowKit.Hid (w.heap.size ≤ R) := Lib.hid (by omega)
  rw [← hP] at HP ⊢
  rw [← hR] at HR ⊢
  rw [← hQ] at HQ ⊢
  clear hP hR hQ
  have p0 := HQ.out.cell 0
  simp at p0
  go_wp2_with fail
  clear p0
  go_loopw [4] (fun vi wr => ∃ (k : Nat) (T : Option Addr) (ct : Nat), k ≤ NG ∧ vi = .int .i64 (k : Int) ∧ RowKit.Hid (Blk wr P 26 #[ .slice T k ct, .slice none 0 0, .slice none 0 0, .slice none 0 0]) ∧ RowKit.Hid (NmRow wr w3.heap.size (.slice T k ct) (p.groups.take k)) ∧ RowKit.Hid (Keeps (fun x => x = P) w3 wr)) (fun vi _ => NG - (intOf vi).toNat)
  case atStart => exact ⟨0, none, 0, Nat.zero_le _, rfl, HP, Lib.hid (NmRow.nil _ _), Lib.hid (Keeps.refl _ _)⟩
  case round =>
    obtain ⟨k, T, ct, hk, rfl, HPr, HNr, HKr⟩ := hrel
    have HBr := Lib.hid (HD.out.trans (HKr.out.low (fun x hx => by subst hx; exact hPw.out) HD.out.size))
    have HQr := Lib.hid (HQ.out.keep HKr.out hQP.out)
    have p1 := HQr.out.cell 0
    have t0 := HPr.out.cell 0
    simp at p1 t0
    by_cases hlt : k < NG
    case pos =>
      obtain ⟨wo, rfl⟩ : ∃ wo : World, wo = wr := ⟨_, rfl⟩
      have hlx := congrArg List.length HXg.out
      rw [List.length_map] at hlx
      have hkl : k < p.groups.length := by have := HNG.out; omega
      obtain ⟨X, hX⟩ : ∃ X, xg[k]? = some X := ⟨_, List.getElem?_eq_getElem (by omega)⟩
      have hXl : p.groups[k]? = some X.1 := by rw [← HXg.out, List.getElem?_map, hX]; rfl
      have hXg : p.groups[k] = X.1 := (List.getElem?_eq_some_iff.1 hXl).2
      have htk := List.take_succ_eq_append_getElem hkl
      rw [hXg] at htk
      have htl : (p.groups.take k).length = k := by rw [List.length_take]; omega
      have hcx := nmCells_at (xg.map nmPair) k (nmPair X) (by rw [List.getElem?_map, hX]; rfl)
      obtain ⟨q, o, rfl, hc⟩ := H1.out.cell (Below.refl _ _) (by omega)
      have d0 := hc _ _ hcx.1
      have d1 := hc _ _ hcx.2
      rw [← Nat.add_assoc] at d1
      have rX := I1.out X (List.mem_of_getElem? hX)
      have hXf := HFit.out.g X.1 (List.mem_of_getElem? hXl)
      obtain ⟨⟨nm, ls⟩, lv⟩ := X
      unfold nmPair at d0 d1
      simp only at d0 d1 rX hXf htk
      obtain ⟨A2, c2, rfl⟩ := rX.shape
      obtain ⟨A3, c3, wb, hrun, hown, db⟩ := append_row (P := Tryz.prog) wo.drew wo.heap.size 50 50 9 i0 (.string ByteArray.empty) 1 16 Tryz.underlying50 hi hz0 hz1 hz2 rfl (by decide) (rX.below HBr.out.drew) (one_str _) (Nat.le_trans hXf.len (by decide)) (by decide) (Nat.le_refl _)
      have eb : Below wo.heap.size wo wb := ⟨db.os, db.tape, db.output, db.size, db.block⟩
      have HRun := Lib.hid hrun
      have HOwn := Lib.hid hown
      obtain ⟨n2, hn2⟩ : ∃ n, n = ls.length := ⟨_, rfl⟩
      rw [← hn2] at HRun HOwn d1
      have HN2 := Lib.hid hn2
      have HBb := Lib.hid (after HBr.out eb)
      have HPb := Lib.hid (HPr.out.below eb HPr.out.lt)
      have HQb := Lib.hid (HQr.out.below eb HQr.out.lt)
      have HKb := Lib.hid (HKr.out.trans (Keeps.of_below eb fun x hx _ => hx))
      have HNb := Lib.hid (HNr.out.below eb)
      have e0 := below_cell d0 HBr.out
      have e1 := below_cell d1 HBr.out
      have u0 := below_cell d0 HBb.out
      have u1 := below_cell d1 HBb.out
      have u2 := HPb.out.cell 0
      have u3 := HQb.out.cell 0
      simp at u2 u3
      have U := Lib.hid (And.intro u2 (And.intro u3 (And.intro u0 u1)))
      have bc := boxed wb (.cells #[.string nm, .slice A3 n2 c3] 56)
      have HBc := Lib.hid (after HBb.out bc)
      have HPc := Lib.hid (HPb.out.alloc (.cells #[.string nm, .slice A3 n2 c3] 56))
      have HQc := Lib.hid (HQb.out.alloc (.cells #[.string nm, .slice A3 n2 c3] 56))
      have HKc := Lib.hid (HKb.out.alloc (.cells #[.string nm, .slice A3 n2 c3] 56))
      obtain ⟨ys, hys, hoy, hiy⟩ := HNb.out
      rw [htl] at hoy
      have HYs := Lib.hid hys
      have HOX := Lib.hid (hoy.alloc (.cells #[.string nm, .slice A3 n2 c3] 56))
      have HIy := Lib.hid hiy
      have HNew := Lib.hid (cells_new wb [.string nm, .slice A3 n2 c3] 56)
      have HOc := Lib.hid (own_below HOwn.out bc)
      have v0 := below_cell d0 HBc.out
      have v1 := below_cell d1 HBc.out
      have v2 := HPc.out.cell 0
      have v3 := HQc.out.cell 0
      simp at v2 v3
      have VV := Lib.hid (And.intro v2 (And.intro v3 (And.intro v0 v1)))
      have D0 := Lib.hid d0
      have D1 := Lib.hid d1
      have HTk := Lib.hid htk
      have HTl := Lib.hid htl
      have hbase : RowKit.Hid (w.heap.size ≤ w3.heap.size ∧ w3.heap.size ≤ wo.heap.size) := Lib.hid ⟨HD.out.size, HKr.out.size⟩
      clear hlx hkl hX hXl hXg htk htl hcx hc d0 d1 rX hXf hrun hown hn2 db eb u0 u1 u2 u3 v0 v1 v2 v3 bc hys hoy hiy HNb HNr HBr HQr HPr
      go_upto_region 5 with fail
      refine wp_region_E 19 (fun w' => w'.cell? ⟨P, 0, none⟩ = some (.slice T k ct) ∧ w'.cell? ⟨Q, 0, none⟩ = some (.slice (some ⟨q, o, none⟩) NG cg) ∧ w'.cell? ⟨q, o + k * 2, none⟩ = some (.string nm) ∧ w'.cell? ⟨q, o + k * 2 + 1, none⟩ = some (.slice A2 n2 c2)) (by kernel_rfl) (⟨t0, p1, e0, e1⟩) (fun hHeld => ?_)
      refine' wpAnyE_take (i := 0) (v := _) rfl (by kernel_rfl) (by kernel_rfl) (by kernel_rfl) (fun _ _ _ h => h) (Or.inl ⟨by rfl, ?ly1⟩) (by assumption) (by kernel_rfl) ?lrest1
      case ly1 =>
        intro w hSw
        try dsimp only at hSw
        go_simp
        try with_reducible rfl
      try simp only [Act.put, List.setIfInBounds_toArray, List.set_cons_zero, List.set_cons_succ, List.getElem_toArray, List.getElem_cons_zero, List.getElem_cons_succ]
      refine' wpAnyE_take (i := 1) (v := _) rfl (by kernel_rfl) (by kernel_rfl) (by kernel_rfl) (fun _ _ _ h => h) (Or.inl ⟨by rfl, ?ly2⟩) (by assumption) (by kernel_rfl) ?lrest2
      case ly2 =>
        intro w hSw
        try dsimp only at hSw
        go_simp
        try with_reducible rfl
      try simp only [Act.put, List.setIfInBounds_toArray, List.set_cons_zero, List.set_cons_succ, List.getElem_toArray, List.getElem_cons_zero, List.getElem_cons_succ]
      refine' wpAnyE_take (i := 2) (v := _) rfl (by kernel_rfl) (by kernel_rfl) (by kernel_rfl) (fun _ _ _ h => h) (Or.inl ⟨by rfl, ?ly3⟩) (by assumption) (by kernel_rfl) ?lrest3
      case ly3 =>
        intro w hSw
        try dsimp only at hSw
        go_simp
        try with_reducible rfl
      try simp only [Act.put, List.setIfInBounds_toArray, List.set_cons_zero, List.set_cons_succ, List.getElem_toArray, List.getElem_cons_zero, List.getElem_cons_succ]
      refine' wpAnyE_take (i := 3) (v := _) rfl (by kernel_rfl) (by kernel_rfl) (by kernel_rfl) (fun _ _ _ h => h) (Or.inl ⟨by rfl, ?ly4⟩) (by assumption) (by kernel_rfl) ?lrest4
      case ly4 =>
        intro w hSw
        try dsimp only at hSw
        go_simp
        try with_reducible rfl
      try simp only [Act.put, List.setIfInBounds_toArray, List.set_cons_zero, List.set_cons_succ, List.getElem_toArray, List.getElem_cons_zero, List.getElem_cons_succ]
      refine' wpAnyE_take (i := 4) (v := _) rfl (by kernel_rfl) (by kernel_rfl) (by kernel_rfl) (fun _ _ _ h => h) (Or.inl ⟨by rfl, ?ly5⟩) (by assumption) (by kernel_rfl) ?lrest5
      case ly5 =>
        intro w hSw
        try dsimp only at hSw
        go_simp
        try with_reducible rfl
      try simp only [Act.put, List.setIfInBounds_toArray, List.set_cons_zero, List.set_cons_succ, List.getElem_toArray, List.getElem_cons_zero, List.getElem_cons_succ]
      refine' wpAnyE_take (i := 5) (v := _) rfl (by kernel_rfl) (by kernel_rfl) (by kernel_rfl) (fun _ _ _ h => h) (Or.inl ⟨by rfl, ?ly6⟩) (by assumption) (by kernel_rfl) ?lrest6
      case ly6 =>
        intro w hSw
        try dsimp only at hSw
        go_simp
        try with_reducible rfl
      try simp only [Act.put, List.setIfInBounds_toArray, List.set_cons_zero, List.set_cons_succ, List.getElem_toArray, List.getElem_cons_zero, List.getElem_cons_succ]
      refine' wpAnyE_take (i := 6) (v := _) rfl (by kernel_rfl) (by kernel_rfl) (by kernel_rfl) (fun _ _ _ h => h) (Or.inl ⟨by rfl, ?ly7⟩) (by assumption) (by kernel_rfl) ?lrest7
      case ly7 =>
        intro w hSw
        try dsimp only at hSw
        go_simp
        try with_reducible rfl
      try simp only [Act.put, List.setIfInBounds_toArray, List.set_cons_zero, List.set_cons_succ, List.getElem_toArray, List.getElem_cons_zero, List.getElem_cons_succ]
      refine' wpAnyE_take (i := 7) (v := _) rfl (by kernel_rfl) (by kernel_rfl) (by kernel_rfl) (fun _ _ _ h => h) (Or.inl ⟨by rfl, ?ly8⟩) (by assumption) (by kernel_rfl) ?lrest8
      case ly8 =>
        intro w hSw
        try dsimp only at hSw
        go_simp
        try with_reducible rfl
      try simp only [Act.put, List.setIfInBounds_toArray, List.set_cons_zero, List.set_cons_succ, List.getElem_toArray, List.getElem_cons_zero, List.getElem_cons_succ]
      refine' wpAnyE_take (i := 8) (v := _) rfl (by kernel_rfl) (by kernel_rfl) (by kernel_rfl) (fun _ _ _ h => h) (Or.inl ⟨by rfl, ?ly9⟩) (by assumption) (by kernel_rfl) ?lrest9
      case ly9 =>
        intro w hSw
        try dsimp only at hSw
        go_simp
        try with_reducible rfl
      try simp only [Act.put, List.setIfInBounds_toArray, List.set_cons_zero, List.set_cons_succ, List.getElem_toArray, List.getElem_cons_zero, List.getElem_cons_succ]
      refine' wpAnyE_take (i := 9) (v := _) rfl (by kernel_rfl) (by kernel_rfl) (by kernel_rfl) (fun _ _ _ h => h) (Or.inl ⟨by rfl, ?ly10⟩) (by assumption) (by kernel_rfl) ?lrest10
      case ly10 =>
        intro w hSw
        try dsimp only at hSw
        go_simp
        try with_reducible rfl
      try simp only [Act.put, List.setIfInBounds_toArray, List.set_cons_zero, List.set_cons_succ, List.getElem_toArray, List.getElem_cons_zero, List.getElem_cons_succ]
      refine' wpAnyE_take (i := 10) (v := _) rfl (by kernel_rfl) (by kernel_rfl) (by kernel_rfl) (fun _ _ _ h => h) (Or.inl ⟨by rfl, ?ly11⟩) (by assumption) (by kernel_rfl) ?lrest11
      case ly11 =>
        intro w hSw
        try dsimp only at hSw
        go_simp
        try with_reducible rfl
      try simp only [Act.put, List.setIfInBounds_toArray, List.set_cons_zero, List.set_cons_succ, List.getElem_toArray, List.getElem_cons_zero, List.getElem_cons_succ]
      refine' wpAnyE_take (i := 11) (v := _) rfl (by kernel_rfl) (by kernel_rfl) (by kernel_rfl) (fun _ _ _ h => h) (Or.inl ⟨by rfl, ?ly12⟩) (by assumption) (by kernel_rfl) ?lrest12
      case ly12 =>
        intro w hSw
        try dsimp only at hSw
        go_simp
        try with_reducible rfl
      try simp only [Act.put, List.setIfInBounds_toArray, List.set_cons_zero, List.set_cons_succ, List.getElem_toArray, List.getElem_cons_zero, List.getElem_cons_succ]
      refine' wpAnyE_take (i := 12) (v := _) rfl (by kernel_rfl) (by kernel_rfl) (by kernel_rfl) (fun _ _ _ h => h) (Or.inl ⟨by rfl, ?ly13⟩) (by assumption) (by kernel_rfl) ?lrest13
      case ly13 =>
        intro w hSw
        try dsimp only at hSw
        go_simp
        try with_reducible rfl
      try simp only [Act.put, List.setIfInBounds_toArray, List.set_cons_zero, List.set_cons_succ, List.getElem_toArray, List.getElem_cons_zero, List.getElem_cons_succ]
      refine' wpAnyE_take (i := 13) (v := _) rfl (by kernel_rfl) (by kernel_rfl) (by kernel_rfl) (fun _ _ _ h => h) (Or.inl ⟨by rfl, ?ly14⟩) (by assumption) (by kernel_rfl) ?lrest14
      case ly14 =>
        intro w hSw
        try dsimp only at hSw
        go_simp
        try with_reducible rfl
      try simp only [Act.put, List.setIfInBounds_toArray, List.set_cons_zero, List.set_cons_succ, List.getElem_toArray, List.getElem_cons_zero, List.getElem_cons_succ]
      refine wpAnyE_ready (rs := [14]) (by kernel_rfl) (by simp) ?_
      refine AllReadyE.cons rfl (fun K hK => ?_) AllReadyE.nil
      refine step_append_run rfl _ _ _ _ (by rfl) (by rfl) (by rfl) HRun.out ?_
      refine hK.out _ _ (fun _ => U.out) (fun hHeld => ?_)
      have hHeld := hHeld (by decide)
      clear hK K
      try simp only [Act.put, List.setIfInBounds_toArray, List.set_cons_zero, List.set_cons_succ, List.getElem_toArray, List.getElem_cons_zero, List.getElem_cons_succ]
      refine' wpAnyE_take (i := 15) (v := _) rfl (by kernel_rfl) (by kernel_rfl) (by kernel_rfl) (fun _ _ _ h => h) (Or.inl ⟨by rfl, ?ly16⟩) (by assumption) (by kernel_rfl) ?lrest16
      case ly16 =>
        intro w hSw
        try dsimp only at hSw
        go_simp
        try with_reducible rfl
      try simp only [Act.put, List.setIfInBounds_toArray, List.set_cons_zero, List.set_cons_succ, List.getElem_toArray, List.getElem_cons_zero, List.getElem_cons_succ]
      refine wpAnyE_ready (rs := [16]) (by kernel_rfl) (by simp) ?_
      refine AllReadyE.cons rfl (fun K hK => ?_) AllReadyE.nil
      go_simp
      skip
      refine hK.out _ _ (fun _ => VV.out) (fun hHeld => ?_)
      have hHeld := hHeld (by decide)
      clear hK K
      try simp only [Act.put, List.setIfInBounds_toArray, List.set_cons_zero, List.set_cons_succ, List.getElem_toArray, List.getElem_cons_zero, List.getElem_cons_succ]
      refine wpAnyE_ready (rs := [17]) (by kernel_rfl) (by simp) ?_
      refine AllReadyE.cons rfl (fun K hK => ?_) AllReadyE.nil
      refine step_append_lies _ (by rfl) _ _ _ (by rfl) w3.heap.size 56 j0 (.agg #[.string ⟨#[]⟩, .slice none 0 0]) 2 40 Tryz.underlying22 hj hj0 hj1 hj2 rfl (by decide) _ k _ (by rfl) HOX.out ⟨wb.heap.size, 0, none⟩ 1 1 [.string nm, .slice A3 n2 c3] (by rfl) rfl HNew.out (by intro u hu; simp at hu; rcases hu with rfl | rfl <;> rfl) (by decide) (by unfold maxLen; omega) (by omega) (by have := hbase.out; have := HKb.out.size; simp; omega) (wb.heap.size + 1) (by simp) ?_
      intro g' cap' wd hown' hgrow hat hglt
      have BP := Lib.hid (HPc.out.off (Keeps.row hgrow) (ownOff HOX.out) (by decide))
      have BQ := Lib.hid (HQc.out.off (Keeps.row hgrow) (ownOff HOX.out) (by decide))
      have HBd := HBc.out.grown hgrow HBc.out.size (fun x hx => by have := (HOX.out.lt x hx).1; have := hbase.out; omega)
      have x0 := below_cell D0.out HBd
      have x1 := below_cell D1.out HBd
      have x2 := BP.out.cell 0
      have x3 := BQ.out.cell 0
      simp at x2 x3
      have z2 := BP.out.frozen 0
      have Hown := Lib.hid hown'
      have Hgrow := Lib.hid hgrow
      clear hown' hgrow hat hglt HBd
      refine hK.out _ _ (fun _ => ⟨x2, x3, x0, x1⟩) (fun hHeld => ?_)
      have hHeld := hHeld (by decide)
      clear hK K
      try simp only [Act.put, List.setIfInBounds_toArray, List.set_cons_zero, List.set_cons_succ, List.getElem_toArray, List.getElem_cons_zero, List.getElem_cons_succ]
      refine' wpAnyE_take (i := 18) (v := _) rfl (by kernel_rfl) (by kernel_rfl) (by kernel_rfl) (fun _ _ _ h => h) (Or.inl ⟨by rfl, ?ly19⟩) (by assumption) (by kernel_rfl) ?lrest19
      case ly19 =>
        intro w hSw
        try dsimp only at hSw
        go_simp
        try with_reducible rfl
      try simp only [Act.put, List.setIfInBounds_toArray, List.set_cons_zero, List.set_cons_succ, List.getElem_toArray, List.getElem_cons_zero, List.getElem_cons_succ]
      refine wpAnyE_ready (rs := [19]) (by kernel_rfl) (by simp) ?_
      refine AllReadyE.cons rfl (fun K hK => ?_) AllReadyE.nil
      go_simp
      refine hK.out _ _ (fun h => absurd rfl h) (fun _ => ?_)
      clear hK K hHeld
      try simp only [Act.put, List.setIfInBounds_toArray, List.set_cons_zero, List.set_cons_succ, List.getElem_toArray, List.getElem_cons_zero, List.getElem_cons_succ]
      refine wpAnyE_done (by kernel_rfl) ?_
      have KQ := (Keeps.refl (fun x => x = P) wd).setCell (p := ⟨P, 0, none⟩) (Or.inl rfl) (.slice (some ⟨g', 0, none⟩) (k + 1) cap')
      have OQ : Off (fun x => x = P) wd [26] := fun x hx => ⟨_, _, _, by subst hx; exact BP.out, by simp⟩
      have HKz := Lib.hid ((Keeps.grown HKc.out Hgrow.out fun x hx => Or.inr (HOX.out.lt x hx).1).trans KQ)
      have HPz := Lib.hid (BP.out.set_ 0 (.slice (some ⟨g', 0, none⟩) (k + 1) cap'))
      have hstr : ∀ (u : Value) (m : Nat) (zs : List Value), (wb.alloc (.cells #[.string nm, .slice A3 n2 c3] 56)).ownsRow w3.heap.size 9 1 u m zs → (wd.setCell ⟨P, 0, none⟩ (.slice (some ⟨g', 0, none⟩) (k + 1) cap')).ownsRow w3.heap.size 9 1 u m zs := fun u m zs hu =>
        own_off (own_off hu (Keeps.row Hgrow.out) (ownOff HOX.out) (by decide)) KQ OQ (by decide)
      have HNz : RowKit.Hid (NmRow (wd.setCell ⟨P, 0, none⟩ (.slice (some ⟨g', 0, none⟩) (k + 1) cap')) w3.heap.size (.slice (some ⟨g', 0, none⟩) (k + 1) cap') (p.groups.take (k + 1))) := by
        refine Lib.hid ⟨ys ++ [(⟨nm, ls⟩, .slice A3 n2 c3)], by rw [List.map_append, HYs.out, HTk.out]; rfl, ?_, ?_⟩
        · rw [HTk.out, List.length_append, HTl.out, List.map_append, show List.map nmPair [((⟨nm, ls⟩ : Nm), Value.slice A3 n2 c3)] = [(nm, .slice A3 n2 c3)] from rfl, nmCells_snoc]
          exact own_off Hown.out KQ OQ (by decide)
        · intro x hx
          rcases List.mem_append.1 hx with hx | hx
          · exact hstr _ _ _ ((HIy.out x hx).alloc _)
          · rw [List.mem_singleton.1 hx]
            refine hstr _ _ _ ?_
            have := HOc.out.mono hbase.out.2
            rw [HN2.out] at this ⊢
            exact this
      clear KQ OQ hstr BP BQ Hown Hgrow HKc HPc HQc HOX HIy HYs HOc HNew HBc HBb HPb HQb HKb HOwn HRun D0 D1 z2 x0 x1 x2 x3
      generalize wd.setCell ⟨P, 0, none⟩ (.slice (some ⟨g', 0, none⟩) (k + 1) cap') = we at HKz HPz HNz ⊢
      go_wp2_with fail
      go_roundw
      case rel => exact ⟨k + 1, some ⟨g', 0, none⟩, cap', by omega, by go_num, HPz, HNz, HKz⟩
      case measure => simp [intOf]; omega
    obtain rfl : NG = k := by omega
    obtain ⟨wg, rfl⟩ : ∃ wg : World, wg = wr := ⟨_, rfl⟩
    obtain ⟨Tg, rfl⟩ : ∃ x : Option Addr, x = T := ⟨_, rfl⟩
    obtain ⟨tg, rfl⟩ : ∃ x : Nat, x = ct := ⟨_, rfl⟩
    have HNg : RowKit.Hid (NmRow wg w3.heap.size (.slice Tg NG tg) p.groups) := Lib.hid (by have := HNr.out; rw [List.take_of_length_le (by have := HNG.out; omega)] at this; exact this)
    have HRg := Lib.hid (HR.out.keep HKr.out hRP.out)
    have HDg := HBr
    have HQg := HQr
    have HPg := HPr
    have HKg := HKr
    clear HNr HBr HQr HPr HKr p1 t0
    have p0 := HQg.out.cell 0
    have p1 := HQg.out.cell 1
    simp at p0 p1
    go_wp2_with fail
    clear p0 p1
    go_loopw [5] (fun vi wr => ∃ (k : Nat) (T : Option Addr) (ct : Nat), k ≤ NT ∧ vi = .int .i64 (k : Int) ∧ RowKit.Hid (Blk wr P 26 #[.slice Tg NG tg, .slice T k ct, .slice none 0 0, .slice none 0 0]) ∧ RowKit.Hid (NmRow wr wg.heap.size (.slice T k ct) (p.tags.take k)) ∧ RowKit.Hid (Keeps (fun x => x = P) wg wr)) (fun vi _ => NT - (intOf vi).toNat)
    case atStart => exact ⟨0, none, 0, Nat.zero_le _, rfl, HPg, Lib.hid (NmRow.nil _ _), Lib.hid (Keeps.refl _ _)⟩
    case round =>
      obtain ⟨k, T, ct, hk, rfl, HPr, HNr, HKr⟩ := hrel
      have HBr := Lib.hid (HDg.out.trans (HKr.out.low (fun x hx => by subst hx; exact hPw.out) HDg.out.size))
      have HQr := Lib.hid (HQg.out.keep HKr.out hQP.out)
      have p1 := HQr.out.cell 1
      have t0 := HPr.out.cell 1
      simp at p1 t0
      by_cases hlt : k < NT
      case pos =>
        obtain ⟨wo, rfl⟩ : ∃ wo : World, wo = wr := ⟨_, rfl⟩
        have hlx := congrArg List.length HXt.out
        rw [List.length_map] at hlx
        have hkl : k < p.tags.length := by have := HNT.out; omega
        obtain ⟨X, hX⟩ : ∃ X, xt[k]? = some X := ⟨_, List.getElem?_eq_getElem (by omega)⟩
        have hXl : p.tags[k]? = some X.1 := by rw [← HXt.out, List.getElem?_map, hX]; rfl
        have hXg : p.tags[k] = X.1 := (List.getElem?_eq_some_iff.1 hXl).2
        have htk := List.take_succ_eq_append_getElem hkl
        rw [hXg] at htk
        have htl : (p.tags.take k).length = k := by rw [List.length_take]; omega
        have hcx := nmCells_at (xt.map nmPair) k (nmPair X) (by rw [List.getElem?_map, hX]; rfl)
        obtain ⟨q, o, rfl, hc⟩ := H2.out.cell (Below.refl _ _) (by omega)
        have d0 := hc _ _ hcx.1
        have d1 := hc _ _ hcx.2
        rw [← Nat.add_assoc] at d1
        have rX := I2.out X (List.mem_of_getElem? hX)
        have hXf := HFit.out.t X.1 (List.mem_of_getElem? hXl)
        obtain ⟨⟨nm, ls⟩, lv⟩ := X
        unfold nmPair at d0 d1
        simp only at d0 d1 rX hXf htk
        obtain ⟨A2, c2, rfl⟩ := rX.shape
        obtain ⟨A3, c3, wb, hrun, hown, db⟩ := append_row (P := Tryz.prog) wo.drew wo.heap.size 50 50 9 i0 (.string ByteArray.empty) 1 16 Tryz.underlying50 hi hz0 hz1 hz2 rfl (by decide) (rX.below HBr.out.drew) (one_str _) (Nat.le_trans hXf.len (by decide)) (by decide) (Nat.le_refl _)
        have eb : Below wo.heap.size wo wb := ⟨db.os, db.tape, db.output, db.size, db.block⟩
        have HRun := Lib.hid hrun
        have HOwn := Lib.hid hown
        obtain ⟨n2, hn2⟩ : ∃ n, n = ls.length := ⟨_, rfl⟩
        rw [← hn2] at HRun HOwn d1
        have HN2 := Lib.hid hn2
        have HBb := Lib.hid (after HBr.out eb)
        have HPb := Lib.hid (HPr.out.below eb HPr.out.lt)
        have HQb := Lib.hid (HQr.out.below eb HQr.out.lt)
        have HKb := Lib.hid (HKr.out.trans (Keeps.of_below eb fun x hx _ => hx))
        have HNb := Lib.hid (HNr.out.below eb)
        have e0 := below_cell d0 HBr.out
        have e1 := below_cell d1 HBr.out
        have u0 := below_cell d0 HBb.out
        have u1 := below_cell d1 HBb.out
        have u2 := HPb.out.cell 1
        have u3 := HQb.out.cell 1
        simp at u2 u3
        have U := Lib.hid (And.intro u2 (And.intro u3 (And.intro u0 u1)))
        have bc := boxed wb (.cells #[.string nm, .slice A3 n2 c3] 56)
        have HBc := Lib.hid (after HBb.out bc)
        have HPc := Lib.hid (HPb.out.alloc (.cells #[.string nm, .slice A3 n2 c3] 56))
        have HQc := Lib.hid (HQb.out.alloc (.cells #[.string nm, .slice A3 n2 c3] 56))
        have HKc := Lib.hid (HKb.out.alloc (.cells #[.string nm, .slice A3 n2 c3] 56))
        obtain ⟨ys, hys, hoy, hiy⟩ := HNb.out
        rw [htl] at hoy
        have HYs := Lib.hid hys
        have HOX := Lib.hid (hoy.alloc (.cells #[.string nm, .slice A3 n2 c3] 56))
        have HIy := Lib.hid hiy
        have HNew := Lib.hid (cells_new wb [.string nm, .slice A3 n2 c3] 56)
        have HOc := Lib.hid (own_below HOwn.out bc)
        have v0 := below_cell d0 HBc.out
        have v1 := below_cell d1 HBc.out
        have v2 := HPc.out.cell 1
        have v3 := HQc.out.cell 1
        simp at v2 v3
        have VV := Lib.hid (And.intro v2 (And.intro v3 (And.intro v0 v1)))
        have D0 := Lib.hid d0
        have D1 := Lib.hid d1
        have HTk := Lib.hid htk
        have HTl := Lib.hid htl
        have hbase : RowKit.Hid (w.heap.size ≤ wg.heap.size ∧ wg.heap.size ≤ wo.heap.size) := Lib.hid ⟨HDg.out.size, HKr.out.size⟩
        clear hlx hkl hX hXl hXg htk htl hcx hc d0 d1 rX hXf hrun hown hn2 db eb u0 u1 u2 u3 v0 v1 v2 v3 bc hys hoy hiy HNb HNr HBr HQr HPr
        go_upto_region 9 with fail
        refine wp_region_E 19 (fun w' => w'.cell? ⟨P, 1, none⟩ = some (.slice T k ct) ∧ w'.cell? ⟨Q, 1, none⟩ = some (.slice (some ⟨q, o, none⟩) NT ct') ∧ w'.cell? ⟨q, o + k * 2, none⟩ = some (.string nm) ∧ w'.cell? ⟨q, o + k * 2 + 1, none⟩ = some (.slice A2 n2 c2)) (by kernel_rfl) (⟨t0, p1, e0, e1⟩) (fun hHeld => ?_)
        refine' wpAnyE_take (i := 0) (v := _) rfl (by kernel_rfl) (by kernel_rfl) (by kernel_rfl) (fun _ _ _ h => h) (Or.inl ⟨by rfl, ?ly21⟩) (by assumption) (by kernel_rfl) ?lrest21
        case ly21 =>
          intro w hSw
          try dsimp only at hSw
          go_simp
          try with_reducible rfl
        try simp only [Act.put, List.setIfInBounds_toArray, List.set_cons_zero, List.set_cons_succ, List.getElem_toArray, List.getElem_cons_zero, List.getElem_cons_succ]
        refine' wpAnyE_take (i := 1) (v := _) rfl (by kernel_rfl) (by kernel_rfl) (by kernel_rfl) (fun _ _ _ h => h) (Or.inl ⟨by rfl, ?ly22⟩) (by assumption) (by kernel_rfl) ?lrest22
        case ly22 =>
          intro w hSw
          try dsimp only at hSw
          go_simp
          try with_reducible rfl
        try simp only [Act.put, List.setIfInBounds_toArray, List.set_cons_zero, List.set_cons_succ, List.getElem_toArray, List.getElem_cons_zero, List.getElem_cons_succ]
        refine' wpAnyE_take (i := 2) (v := _) rfl (by kernel_rfl) (by kernel_rfl) (by kernel_rfl) (fun _ _ _ h => h) (Or.inl ⟨by rfl, ?ly23⟩) (by assumption) (by kernel_rfl) ?lrest23
        case ly23 =>
          intro w hSw
          try dsimp only at hSw
          go_simp
          try with_reducible rfl
        try simp only [Act.put, List.setIfInBounds_toArray, List.set_cons_zero, List.set_cons_succ, List.getElem_toArray, List.getElem_cons_zero, List.getElem_cons_succ]
        refine' wpAnyE_take (i := 3) (v := _) rfl (by kernel_rfl) (by kernel_rfl) (by kernel_rfl) (fun _ _ _ h => h) (Or.inl ⟨by rfl, ?ly24⟩) (by assumption) (by kernel_rfl) ?lrest24
        case ly24 =>
          intro w hSw
          try dsimp only at hSw
          go_simp
          try with_reducible rfl
        try simp only [Act.put, List.setIfInBounds_toArray, List.set_cons_zero, List.set_cons_succ, List.getElem_toArray, List.getElem_cons_zero, List.getElem_cons_succ]
        refine' wpAnyE_take (i := 4) (v := _) rfl (by kernel_rfl) (by kernel_rfl) (by kernel_rfl) (fun _ _ _ h => h) (Or.inl ⟨by rfl, ?ly25⟩) (by assumption) (by kernel_rfl) ?lrest25
        case ly25 =>
          intro w hSw
          try dsimp only at hSw
          go_simp
          try with_reducible rfl
        try simp only [Act.put, List.setIfInBounds_toArray, List.set_cons_zero, List.set_cons_succ, List.getElem_toArray, List.getElem_cons_zero, List.getElem_cons_succ]
        refine' wpAnyE_take (i := 5) (v := _) rfl (by kernel_rfl) (by kernel_rfl) (by kernel_rfl) (fun _ _ _ h => h) (Or.inl ⟨by rfl, ?ly26⟩) (by assumption) (by kernel_rfl) ?lrest26
        case ly26 =>
          intro w hSw
          try dsimp only at hSw
          go_simp
          try with_reducible rfl
        try simp only [Act.put, List.setIfInBounds_toArray, List.set_cons_zero, List.set_cons_succ, List.getElem_toArray, List.getElem_cons_zero, List.getElem_cons_succ]
        refine' wpAnyE_take (i := 6) (v := _) rfl (by kernel_rfl) (by kernel_rfl) (by kernel_rfl) (fun _ _ _ h => h) (Or.inl ⟨by rfl, ?ly27⟩) (by assumption) (by kernel_rfl) ?lrest27
        case ly27 =>
          intro w hSw
          try dsimp only at hSw
          go_simp
          try with_reducible rfl
        try simp only [Act.put, List.setIfInBounds_toArray, List.set_cons_zero, List.set_cons_succ, List.getElem_toArray, List.getElem_cons_zero, List.getElem_cons_succ]
        refine' wpAnyE_take (i := 7) (v := _) rfl (by kernel_rfl) (by kernel_rfl) (by kernel_rfl) (fun _ _ _ h => h) (Or.inl ⟨by rfl, ?ly28⟩) (by assumption) (by kernel_rfl) ?lrest28
        case ly28 =>
          intro w hSw
          try dsimp only at hSw
          go_simp
          try with_reducible rfl
        try simp only [Act.put, List.setIfInBounds_toArray, List.set_cons_zero, List.set_cons_succ, List.getElem_toArray, List.getElem_cons_zero, List.getElem_cons_succ]
        refine' wpAnyE_take (i := 8) (v := _) rfl (by kernel_rfl) (by kernel_rfl) (by kernel_rfl) (fun _ _ _ h => h) (Or.inl ⟨by rfl, ?ly29⟩) (by assumption) (by kernel_rfl) ?lrest29
        case ly29 =>
          intro w hSw
          try dsimp only at hSw
          go_simp
          try with_reducible rfl
        try simp only [Act.put, List.setIfInBounds_toArray, List.set_cons_zero, List.set_cons_succ, List.getElem_toArray, List.getElem_cons_zero, List.getElem_cons_succ]
        refine' wpAnyE_take (i := 9) (v := _) rfl (by kernel_rfl) (by kernel_rfl) (by kernel_rfl) (fun _ _ _ h => h) (Or.inl ⟨by rfl, ?ly30⟩) (by assumption) (by kernel_rfl) ?lrest30
        case ly30 =>
          intro w hSw
          try dsimp only at hSw
          go_simp
          try with_reducible rfl
        try simp only [Act.put, List.setIfInBounds_toArray, List.set_cons_zero, List.set_cons_succ, List.getElem_toArray, List.getElem_cons_zero, List.getElem_cons_succ]
        refine' wpAnyE_take (i := 10) (v := _) rfl (by kernel_rfl) (by kernel_rfl) (by kernel_rfl) (fun _ _ _ h => h) (Or.inl ⟨by rfl, ?ly31⟩) (by assumption) (by kernel_rfl) ?lrest31
        case ly31 =>
          intro w hSw
          try dsimp only at hSw
          go_simp
          try with_reducible rfl
        try simp only [Act.put, List.setIfInBounds_toArray, List.set_cons_zero, List.set_cons_succ, List.getElem_toArray, List.getElem_cons_zero, List.getElem_cons_succ]
        refine' wpAnyE_take (i := 11) (v := _) rfl (by kernel_rfl) (by kernel_rfl) (by kernel_rfl) (fun _ _ _ h => h) (Or.inl ⟨by rfl, ?ly32⟩) (by assumption) (by kernel_rfl) ?lrest32
        case ly32 =>
          intro w hSw
          try dsimp only at hSw
          go_simp
          try with_reducible rfl
        try simp only [Act.put, List.setIfInBounds_toArray, List.set_cons_zero, List.set_cons_succ, List.getElem_toArray, List.getElem_cons_zero, List.getElem_cons_succ]
        refine' wpAnyE_take (i := 12) (v := _) rfl (by kernel_rfl) (by kernel_rfl) (by kernel_rfl) (fun _ _ _ h => h) (Or.inl ⟨by rfl, ?ly33⟩) (by assumption) (by kernel_rfl) ?lrest33
        case ly33 =>
          intro w hSw
          try dsimp only at hSw
          go_simp
          try with_reducible rfl
        try simp only [Act.put, List.setIfInBounds_toArray, List.set_cons_zero, List.set_cons_succ, List.getElem_toArray, List.getElem_cons_zero, List.getElem_cons_succ]
        refine' wpAnyE_take (i := 13) (v := _) rfl (by kernel_rfl) (by kernel_rfl) (by kernel_rfl) (fun _ _ _ h => h) (Or.inl ⟨by rfl, ?ly34⟩) (by assumption) (by kernel_rfl) ?lrest34
        case ly34 =>
          intro w hSw
          try dsimp only at hSw
          go_simp
          try with_reducible rfl
        try simp only [Act.put, List.setIfInBounds_toArray, List.set_cons_zero, List.set_cons_succ, List.getElem_toArray, List.getElem_cons_zero, List.getElem_cons_succ]
        refine wpAnyE_ready (rs := [14]) (by kernel_rfl) (by simp) ?_
        refine AllReadyE.cons rfl (fun K hK => ?_) AllReadyE.nil
        refine step_append_run rfl _ _ _ _ (by rfl) (by rfl) (by rfl) HRun.out ?_
        refine hK.out _ _ (fun _ => U.out) (fun hHeld => ?_)
        have hHeld := hHeld (by decide)
        clear hK K
        try simp only [Act.put, List.setIfInBounds_toArray, List.set_cons_zero, List.set_cons_succ, List.getElem_toArray, List.getElem_cons_zero, List.getElem_cons_succ]
        refine' wpAnyE_take (i := 15) (v := _) rfl (by kernel_rfl) (by kernel_rfl) (by kernel_rfl) (fun _ _ _ h => h) (Or.inl ⟨by rfl, ?ly36⟩) (by assumption) (by kernel_rfl) ?lrest36
        case ly36 =>
          intro w hSw
          try dsimp only at hSw
          go_simp
          try with_reducible rfl
        try simp only [Act.put, List.setIfInBounds_toArray, List.set_cons_zero, List.set_cons_succ, List.getElem_toArray, List.getElem_cons_zero, List.getElem_cons_succ]
        refine wpAnyE_ready (rs := [16]) (by kernel_rfl) (by simp) ?_
        refine AllReadyE.cons rfl (fun K hK => ?_) AllReadyE.nil
        go_simp
        skip
        refine hK.out _ _ (fun _ => VV.out) (fun hHeld => ?_)
        have hHeld := hHeld (by decide)
        clear hK K
        try simp only [Act.put, List.setIfInBounds_toArray, List.set_cons_zero, List.set_cons_succ, List.getElem_toArray, List.getElem_cons_zero, List.getElem_cons_succ]
        refine wpAnyE_ready (rs := [17]) (by kernel_rfl) (by simp) ?_
        refine AllReadyE.cons rfl (fun K hK => ?_) AllReadyE.nil
        refine step_append_lies _ (by rfl) _ _ _ (by rfl) wg.heap.size 56 j0 (.agg #[.string ⟨#[]⟩, .slice none 0 0]) 2 40 Tryz.underlying22 hj hj0 hj1 hj2 rfl (by decide) _ k _ (by rfl) HOX.out ⟨wb.heap.size, 0, none⟩ 1 1 [.string nm, .slice A3 n2 c3] (by rfl) rfl HNew.out (by intro u hu; simp at hu; rcases hu with rfl | rfl <;> rfl) (by decide) (by unfold maxLen; omega) (by omega) (by have := hbase.out; have := HKb.out.size; simp; omega) (wb.heap.size + 1) (by simp) ?_
        intro g' cap' wd hown' hgrow hat hglt
        have BP := Lib.hid (HPc.out.off (Keeps.row hgrow) (ownOff HOX.out) (by decide))
        have BQ := Lib.hid (HQc.out.off (Keeps.row hgrow) (ownOff HOX.out) (by decide))
        have HBd := HBc.out.grown hgrow HBc.out.size (fun x hx => by have := (HOX.out.lt x hx).1; have := hbase.out; omega)
        have x0 := below_cell D0.out HBd
        have x1 := below_cell D1.out HBd
        have x2 := BP.out.cell 1
        have x3 := BQ.out.cell 1
        simp at x2 x3
        have z2 := BP.out.frozen 1
        have Hown := Lib.hid hown'
        have Hgrow := Lib.hid hgrow
        clear hown' hgrow hat hglt HBd
        refine hK.out _ _ (fun _ => ⟨x2, x3, x0, x1⟩) (fun hHeld => ?_)
        have hHeld := hHeld (by decide)
        clear hK K
        try simp only [Act.put, List.setIfInBounds_toArray, List.set_cons_zero, List.set_cons_succ, List.getElem_toArray, List.getElem_cons_zero, List.getElem_cons_succ]
        refine' wpAnyE_take (i := 18) (v := _) rfl (by kernel_rfl) (by kernel_rfl) (by kernel_rfl) (fun _ _ _ h => h) (Or.inl ⟨by rfl, ?ly39⟩) (by assumption) (by kernel_rfl) ?lrest39
        case ly39 =>
          intro w hSw
          try dsimp only at hSw
          go_simp
          try with_reducible rfl
        try simp only [Act.put, List.setIfInBounds_toArray, List.set_cons_zero, List.set_cons_succ, List.getElem_toArray, List.getElem_cons_zero, List.getElem_cons_succ]
        refine wpAnyE_ready (rs := [19]) (by kernel_rfl) (by simp) ?_
        refine AllReadyE.cons rfl (fun K hK => ?_) AllReadyE.nil
        go_simp
        refine hK.out _ _ (fun h => absurd rfl h) (fun _ => ?_)
        clear hK K hHeld
        try simp only [Act.put, List.setIfInBounds_toArray, List.set_cons_zero, List.set_cons_succ, List.getElem_toArray, List.getElem_cons_zero, List.getElem_cons_succ]
        refine wpAnyE_done (by kernel_rfl) ?_
        have KQ := (Keeps.refl (fun x => x = P) wd).setCell (p := ⟨P, 1, none⟩) (Or.inl rfl) (.slice (some ⟨g', 0, none⟩) (k + 1) cap')
        have OQ : Off (fun x => x = P) wd [26] := fun x hx => ⟨_, _, _, by subst hx; exact BP.out, by simp⟩
        have HKz := Lib.hid ((Keeps.grown HKc.out Hgrow.out fun x hx => Or.inr (HOX.out.lt x hx).1).trans KQ)
        have HPz := Lib.hid (BP.out.set_ 1 (.slice (some ⟨g', 0, none⟩) (k + 1) cap'))
        have hstr : ∀ (u : Value) (m : Nat) (zs : List Value), (wb.alloc (.cells #[.string nm, .slice A3 n2 c3] 56)).ownsRow wg.heap.size 9 1 u m zs → (wd.setCell ⟨P, 1, none⟩ (.slice (some ⟨g', 0, none⟩) (k + 1) cap')).ownsRow wg.heap.size 9 1 u m zs := fun u m zs hu =>
          own_off (own_off hu (Keeps.row Hgrow.out) (ownOff HOX.out) (by decide)) KQ OQ (by decide)
        have HNz : RowKit.Hid (NmRow (wd.setCell ⟨P, 1, none⟩ (.slice (some ⟨g', 0, none⟩) (k + 1) cap')) wg.heap.size (.slice (some ⟨g', 0, none⟩) (k + 1) cap') (p.tags.take (k + 1))) := by
          refine Lib.hid ⟨ys ++ [(⟨nm, ls⟩, .slice A3 n2 c3)], by rw [List.map_append, HYs.out, HTk.out]; rfl, ?_, ?_⟩
          · rw [HTk.out, List.length_append, HTl.out, List.map_append, show List.map nmPair [((⟨nm, ls⟩ : Nm), Value.slice A3 n2 c3)] = [(nm, .slice A3 n2 c3)] from rfl, nmCells_snoc]
            exact own_off Hown.out KQ OQ (by decide)
          · intro x hx
            rcases List.mem_append.1 hx with hx | hx
            · exact hstr _ _ _ ((HIy.out x hx).alloc _)
            · rw [List.mem_singleton.1 hx]
              refine hstr _ _ _ ?_
              have := HOc.out.mono hbase.out.2
              rw [HN2.out] at this ⊢
              exact this
        clear KQ OQ hstr BP BQ Hown Hgrow HKc HPc HQc HOX HIy HYs HOc HNew HBc HBb HPb HQb HKb HOwn HRun D0 D1 z2 x0 x1 x2 x3
        generalize wd.setCell ⟨P, 1, none⟩ (.slice (some ⟨g', 0, none⟩) (k + 1) cap') = we at HKz HPz HNz ⊢
        go_wp2_with fail
        go_roundw
        case rel => exact ⟨k + 1, some ⟨g', 0, none⟩, cap', by omega, by go_num, HPz, HNz, HKz⟩
        case measure => simp [intOf]; omega
      obtain rfl : NT = k := by omega
      obtain ⟨wt, rfl⟩ : ∃ wt : World, wt = wr := ⟨_, rfl⟩
      obtain ⟨Tt, rfl⟩ : ∃ x : Option Addr, x = T := ⟨_, rfl⟩
      obtain ⟨tt, rfl⟩ : ∃ x : Nat, x = ct := ⟨_, rfl⟩
      have HNt : RowKit.Hid (NmRow wt wg.heap.size (.slice Tt NT tt) p.tags) := Lib.hid (by have := HNr.out; rw [List.take_of_length_le (by have := HNT.out; omega)] at this; exact this)
      have HGt := Lib.hid (HNg.out.off HKr.out (fun x hx => ⟨_, _, _, by subst hx; exact HPg.out, List.mem_singleton.2 rfl⟩ : Off (fun x => x = P) wg [26]) (by decide) (by decide))
      have HRt := Lib.hid (HRg.out.keep HKr.out hRP.out)
      have HKt := Lib.hid (HKg.out.trans HKr.out)
      have HDt := HBr
      have HQt := HQr
      have HPt := HPr
      clear HNr HBr HQr HPr HKr p1 t0 HNg HRg HDg HQg HPg HKg
      obtain ⟨k0, hk, hk0, hk1, hk2⟩ := info_parts info_hs
      obtain ⟨A5, c5, wh, hrun, hown, db⟩ := append_row (P := Tryz.prog) wt wt.heap.size 23 23 127 k0 (.agg #[.string ⟨#[]⟩, .bool false, .int .u64 0, .int .u64 0, .int .u8 0]) 5 48 Tryz.underlying23 hk hk0 hk1 hk2 rfl (by decide) (H3.out.below HDt.out) (one_hs _) (by omega) (by decide) (Nat.le_refl _)
      have HRun := Lib.hid hrun
      have p1 := HQt.out.cell 1
      have p2 := HQt.out.cell 2
      have t2 := HPt.out.cell 2
      simp at p1 p2 t2
      have HPh := Lib.hid (HPt.out.below db HPt.out.lt)
      have HQh := Lib.hid (HQt.out.below db HQt.out.lt)
      have HRh := Lib.hid (HRt.out.below db HRt.out.lt)
      have HKh := Lib.hid (HKt.out.trans (Keeps.of_below db fun x hx _ => hx))
      have HGh := Lib.hid (HGt.out.below db)
      have HTh := Lib.hid (HNt.out.below db)
      have HOh := Lib.hid hown
      have y2 := HPh.out.cell 2
      have y3 := HQh.out.cell 3
      simp at y2 y3
      have z2 := HPh.out.frozen 2
      clear hrun hown db
      go_wp2_with (at_builtin; refine step_append rfl _ _ _ _ rfl rfl rfl HRun.out ?_)
      have KQ := (Keeps.refl (fun x => x = P) wh).setCell (p := ⟨P, 2, none⟩) (Or.inl rfl) (.slice A5 NH c5)
      have OQ : Off (fun x => x = P) wh [26] := fun x hx => ⟨_, _, _, by subst hx; exact HPh.out, by simp⟩
      have HPi : RowKit.Hid (Blk (wh.setCell ⟨P, 2, none⟩ (.slice A5 NH c5)) P 26 #[.slice Tg NG tg, .slice Tt NT tt, .slice A5 NH c5, .slice none 0 0]) := Lib.hid (HPh.out.set_ 2 _)
      have HQi := Lib.hid (HQh.out.keep KQ hQP.out)
      have HRi := Lib.hid (HRh.out.keep KQ hRP.out)
      have HKi := Lib.hid (HKh.out.trans KQ)
      have HGi := Lib.hid (HGh.out.off KQ OQ (by decide) (by decide))
      have HTi := Lib.hid (HTh.out.off KQ OQ (by decide) (by decide))
      have HOi := Lib.hid (own_off HOh.out KQ OQ (by decide))
      have HDi := Lib.hid (HD.out.trans (HKi.out.low (fun x hx => by subst hx; exact hPw.out) HD.out.size))
      clear KQ OQ HPh HQh HRh HKh HGh HTh HOh HRun p1 p2 t2 y2 y3 z2 HNt HGt HRt HKt HDt HQt HPt
      generalize wh.setCell ⟨P, 2, none⟩ (.slice A5 NH c5) = wi at HPi HQi HRi HKi HGi HTi HOi HDi ⊢
      obtain ⟨b0, hb, hb0, hb1, hb2⟩ := info_parts info_u8p
      obtain ⟨s0, hs, hs0, hs1, hs2⟩ := info_parts info_sel
      obtain ⟨o0, ho, ho0, ho1, ho2⟩ := info_parts info_po
      obtain ⟨a0, ha, ha0, ha1, ha2⟩ := info_parts info_ac
      go_loopw [6] (fun vi wr => ∃ (k : Nat) (T : Option Addr) (ct : Nat), k ≤ NA ∧ vi = .int .i64 (k : Int) ∧ RowKit.Hid (Blk wr P 26 #[.slice Tg NG tg, .slice Tt NT tt, .slice A5 NH c5, .slice T k ct]) ∧ RowKit.Hid (AcRow wr wi.heap.size (.slice T k ct) (p.acls.take k)) ∧ RowKit.Hid (Keeps (fun x => x = P) wi wr)) (fun vi _ => NA - (intOf vi).toNat)
      case atStart => exact ⟨0, none, 0, Nat.zero_le _, rfl, HPi, Lib.hid (AcRow.nil _ _), Lib.hid (Keeps.refl _ _)⟩
      case round =>
        obtain ⟨k, T, ct, hk', rfl, HPr, HAr, HKr⟩ := hrel
        have HBr := Lib.hid (HDi.out.trans (HKr.out.low (fun x hx => by subst hx; exact hPw.out) HDi.out.size))
        have HQr := Lib.hid (HQi.out.keep HKr.out hQP.out)
        have p3 := HQr.out.cell 3
        simp at p3
        by_cases hlt : k < NA
        case pos =>
          obtain ⟨wo, rfl⟩ : ∃ wo : World, wo = wr := ⟨_, rfl⟩
          have hlx := congrArg List.length HXa.out
          rw [List.length_map] at hlx
          have hkl : k < p.acls.length := by have := HNA.out; omega
          obtain ⟨X, hX⟩ : ∃ X, xa[k]? = some X := ⟨_, List.getElem?_eq_getElem (by omega)⟩
          have hXl : p.acls[k]? = some X.a := by rw [← HXa.out, List.getElem?_map, hX]; rfl
          have hXg : p.acls[k] = X.a := (List.getElem?_eq_some_iff.1 hXl).2
          have htk := List.take_succ_eq_append_getElem hkl
          rw [hXg] at htk
          have htl : (p.acls.take k).length = k := by rw [List.length_take]; omega
          obtain ⟨q, o, rfl, hc⟩ := H4.out.cell HBr.out (by omega)
          obtain ⟨e0, e1, e2, e3⟩ := acCells_at xa k X hX
          have d0 := hc _ _ e0
          have d1 := hc _ _ e1
          have d2 := hc _ _ e2
          have d3 := hc _ _ e3
          rw [← Nat.add_assoc] at d1 d2 d3
          have hxm := I4.out X (List.mem_of_getElem? hX)
          have hXf := HFit.out.a X.a (List.mem_of_getElem? hXl)
          obtain ⟨⟨ps, ss, ds, os⟩, pv, sv, dv, ov⟩ := X
          obtain ⟨A1, c1, f1⟩ := hxm.p.shape
          obtain ⟨A2, c2, f2⟩ := hxm.s.shape
          obtain ⟨A3, c3, f3⟩ := hxm.d.shape
          obtain ⟨A4, c4, f4⟩ := hxm.o.shape
          obtain ⟨x1, x2, x3, x4⟩ := hxm
          have g1 := hXf.pl
          have g2 := hXf.sl
          have g3 := hXf.dl
          have g4 := hXf.ol
          simp only at f1 f2 f3 f4 d0 d1 d2 d3 x1 x2 x3 x4 htk g1 g2 g3 g4
          subst f1 f2 f3 f4
          obtain ⟨n1, hn1⟩ : ∃ n, n = ps.length := ⟨_, rfl⟩
          obtain ⟨n2, hn2⟩ : ∃ n, n = ss.length := ⟨_, rfl⟩
          obtain ⟨n3, hn3⟩ : ∃ n, n = ds.length := ⟨_, rfl⟩
          obtain ⟨n4, hn4⟩ : ∃ n, n = os.length := ⟨_, rfl⟩
          rw [← hn1] at d0 x1 g1
          rw [← hn2] at d1 x2 g2
          rw [← hn3] at d2 x3 g3
          rw [← hn4] at d3 x4 g4
          have HN1 := Lib.hid hn1
          have HN2 := Lib.hid hn2
          have HN3 := Lib.hid hn3
          have HN4 := Lib.hid hn4
          have X1 := Lib.hid x1
          have X2 := Lib.hid x2
          have X3 := Lib.hid x3
          have X4 := Lib.hid x4
          have HTk := Lib.hid htk
          have HTl := Lib.hid htl
          clear hlx hkl hX hXl hXg htk htl hc e0 e1 e2 e3 hXf hn1 hn2 hn3 hn4 x1 x2 x3 x4
          go_upto_region 15 with fail
          have M1 := Lib.hid (Blk.new wo 61 #[.slice A1 n1 c1, .slice A2 n2 c2, .slice A3 n3 c3, .slice A4 n4 c4])
          have q1 := boxed wo (.cells #[.slice A1 n1 c1, .slice A2 n2 c2, .slice A3 n3 c3, .slice A4 n4 c4] 61)
          have HBa := Lib.hid (after HBr.out q1)
          have HPa := Lib.hid (HPr.out.below q1 HPr.out.lt)
          have HQa := Lib.hid (HQr.out.below q1 HQr.out.lt)
          have HKa := Lib.hid (HKr.out.alloc (.cells #[.slice A1 n1 c1, .slice A2 n2 c2, .slice A3 n3 c3, .slice A4 n4 c4] 61))
          have HAa := Lib.hid (HAr.out.below q1)
          generalize wo.alloc (.cells #[.slice A1 n1 c1, .slice A2 n2 c2, .slice A3 n3 c3, .slice A4 n4 c4] 61) = wa at M1 HBa HPa HQa HKa HAa q1 ⊢
          have hMP : RowKit.Hid ((Value.slice T k ct).ownBlock ≠ some wo.heap.size) := Lib.hid (by
            obtain ⟨zs, _, hoz, _⟩ := HAr.out
            intro e
            have := (hoz.lt _ e).2
            omega)
          generalize wo.heap.size = M at M1 hMP ⊢
          clear q1 HBr HPr HQr HKr HAr d0 d1 d2 d3 p3
          obtain ⟨B1, m1, w1, hr1, hw1, db⟩ := append_row (P := Tryz.prog) wa.drew wa.heap.size 57 57 5 b0 (.int .u8 0) 1 1 Tryz.underlying57 hb hb0 hb1 hb2 rfl (by decide) (X1.out.below HBa.out.drew) (one_proto _) (Nat.le_trans g1 (by decide)) (by decide) (Nat.le_refl _)
          have eb1 : Below wa.heap.size wa w1 := ⟨db.os, db.tape, db.output, db.size, db.block⟩
          obtain ⟨B2, m2, w2, hr2, hw2, db2⟩ := append_row (P := Tryz.prog) w1 wa.heap.size 58 58 66 s0 (.agg #[.int .u8 0, .string ⟨#[]⟩, .bool false, .int .u64 0, .int .u64 0, .int .u8 0]) 6 56 Tryz.underlying58 hs hs0 hs1 hs2 rfl (by decide) (X2.out.below (after HBa.out eb1)) (one_sel _) (Nat.le_trans g2 (by decide)) (by decide) eb1.size
          have eb2 := after eb1 db2
          obtain ⟨B3, m3, w4, hr3, hw3, db3⟩ := append_row (P := Tryz.prog) w2 wa.heap.size 58 58 66 s0 (.agg #[.int .u8 0, .string ⟨#[]⟩, .bool false, .int .u64 0, .int .u64 0, .int .u8 0]) 6 56 Tryz.underlying58 hs hs0 hs1 hs2 rfl (by decide) (X3.out.below (after HBa.out eb2)) (one_sel _) (Nat.le_trans g3 (by decide)) (by decide) eb2.size
          have eb3 := after eb2 db3
          obtain ⟨B4, m4, w5, hr4, hw4, db4⟩ := append_row (P := Tryz.prog) w4 wa.heap.size 59 59 68 o0 (.agg #[.int .u16 0, .int .u16 0]) 2 4 Tryz.underlying59 ho ho0 ho1 ho2 rfl (by decide) (X4.out.below (after HBa.out eb3)) (one_port _) (Nat.le_trans g4 (by decide)) (by decide) eb3.size
          have eb4 := after eb3 db4
          have bc := boxed w5 (.cells #[.slice B1 n1 m1, .slice B2 n2 m2, .slice B3 n3 m3, .slice B4 n4 m4] 61)
          have eb5 := after eb4 bc
          have y0 := (HPa.out.below eb1 HPa.out.lt).cell 3
          have y1 := (M1.out.below eb1 M1.out.lt).cell 0
          have y2 := (M1.out.below eb1 M1.out.lt).cell 1
          have y3 := (M1.out.below eb1 M1.out.lt).cell 2
          have y4 := (M1.out.below eb1 M1.out.lt).cell 3
          simp at y0 y1 y2 y3 y4
          have U1 := Lib.hid (And.intro y0 (And.intro y1 (And.intro y2 (And.intro y3 y4))))
          clear y0 y1 y2 y3 y4
          have y0 := (HPa.out.below eb2 HPa.out.lt).cell 3
          have y1 := (M1.out.below eb2 M1.out.lt).cell 0
          have y2 := (M1.out.below eb2 M1.out.lt).cell 1
          have y3 := (M1.out.below eb2 M1.out.lt).cell 2
          have y4 := (M1.out.below eb2 M1.out.lt).cell 3
          simp at y0 y1 y2 y3 y4
          have U2 := Lib.hid (And.intro y0 (And.intro y1 (And.intro y2 (And.intro y3 y4))))
          clear y0 y1 y2 y3 y4
          have y0 := (HPa.out.below eb3 HPa.out.lt).cell 3
          have y1 := (M1.out.below eb3 M1.out.lt).cell 0
          have y2 := (M1.out.below eb3 M1.out.lt).cell 1
          have y3 := (M1.out.below eb3 M1.out.lt).cell 2
          have y4 := (M1.out.below eb3 M1.out.lt).cell 3
          simp at y0 y1 y2 y3 y4
          have U3 := Lib.hid (And.intro y0 (And.intro y1 (And.intro y2 (And.intro y3 y4))))
          clear y0 y1 y2 y3 y4
          have y0 := (HPa.out.below eb4 HPa.out.lt).cell 3
          have y1 := (M1.out.below eb4 M1.out.lt).cell 0
          have y2 := (M1.out.below eb4 M1.out.lt).cell 1
          have y3 := (M1.out.below eb4 M1.out.lt).cell 2
          have y4 := (M1.out.below eb4 M1.out.lt).cell 3
          simp at y0 y1 y2 y3 y4
          have U4 := Lib.hid (And.intro y0 (And.intro y1 (And.intro y2 (And.intro y3 y4))))
          clear y0 y1 y2 y3 y4
          have y0 := (HPa.out.below eb5 HPa.out.lt).cell 3
          have y1 := (M1.out.below eb5 M1.out.lt).cell 0
          have y2 := (M1.out.below eb5 M1.out.lt).cell 1
          have y3 := (M1.out.below eb5 M1.out.lt).cell 2
          have y4 := (M1.out.below eb5 M1.out.lt).cell 3
          simp at y0 y1 y2 y3 y4
          have U5 := Lib.hid (And.intro y0 (And.intro y1 (And.intro y2 (And.intro y3 y4))))
          clear y0 y1 y2 y3 y4
          have y0 := HPa.out.cell 3
          have y1 := M1.out.cell 0
          have y2 := M1.out.cell 1
          have y3 := M1.out.cell 2
          have y4 := M1.out.cell 3
          simp at y0 y1 y2 y3 y4
          have R1 := Lib.hid hr1
          have R2 := Lib.hid hr2
          have R3 := Lib.hid hr3
          have R4 := Lib.hid hr4
          have HK5 := Lib.hid (HKa.out.trans (Keeps.of_below eb5 fun x hx _ => hx))
          have HP5 := Lib.hid (HPa.out.below eb5 HPa.out.lt)
          have HM5 := Lib.hid (M1.out.below eb5 M1.out.lt)
          have HA5 := Lib.hid (HAa.out.below eb5)
          have hbs : wi.heap.size ≤ wa.heap.size := HKa.out.size
          have HMem : RowKit.Hid (AcMem (w5.alloc (.cells #[.slice B1 n1 m1, .slice B2 n2 m2, .slice B3 n3 m3, .slice B4 n4 m4] 61)) wi.heap.size ⟨⟨ps, ss, ds, os⟩, .slice B1 n1 m1, .slice B2 n2 m2, .slice B3 n3 m3, .slice B4 n4 m4⟩) := by
            have z1 := (own_below hw1 (after (after (after db2 db3) db4) bc)).mono hbs
            have z2 := (own_below hw2 (after (after db3 db4) bc)).mono hbs
            have z3 := (own_below hw3 (after db4 bc)).mono hbs
            have z4 := (own_below hw4 bc).mono hbs
            refine Lib.hid ⟨?_, ?_, ?_, ?_⟩
            · rw [HN1.out] at z1 ⊢; exact z1
            · rw [HN2.out] at z2 ⊢; exact z2
            · rw [HN3.out] at z3 ⊢; exact z3
            · rw [HN4.out] at z4 ⊢; exact z4
          have hbw : RowKit.Hid (wi.heap.size ≤ w5.heap.size) := Lib.hid (Nat.le_trans hbs eb4.size)
          obtain ⟨ys, hys, hoy, hiy⟩ := HA5.out
          rw [HTl.out] at hoy
          have HYs := Lib.hid hys
          have HOX := Lib.hid hoy
          have HIy := Lib.hid hiy
          have HNew := Lib.hid (cells_new w5 [.slice B1 n1 m1, .slice B2 n2 m2, .slice B3 n3 m3, .slice B4 n4 m4] 61)
          clear hr1 hr2 hr3 hr4 hw1 hw2 hw3 hw4 db db2 db3 db4 eb1 eb2 eb3 eb4 eb5 bc hys hoy hiy HA5 HAa HKa HQa X1 X2 X3 X4 hbs
          refine wp_region_E 18 (fun w' => w'.cell? ⟨P, 3, none⟩ = some (.slice T k ct) ∧ w'.cell? ⟨M, 0, none⟩ = some (.slice A1 n1 c1) ∧ w'.cell? ⟨M, 1, none⟩ = some (.slice A2 n2 c2) ∧ w'.cell? ⟨M, 2, none⟩ = some (.slice A3 n3 c3) ∧ w'.cell? ⟨M, 3, none⟩ = some (.slice A4 n4 c4)) (by kernel_rfl) (⟨y0, y1, y2, y3, y4⟩) (fun hHeld => ?_)
          refine' wpAnyE_take (i := 0) (v := _) rfl (by kernel_rfl) (by kernel_rfl) (by kernel_rfl) (fun _ _ _ h => h) (Or.inl ⟨by rfl, ?ly41⟩) (by assumption) (by kernel_rfl) ?lrest41
          case ly41 =>
            intro w hSw
            try dsimp only at hSw
            go_simp
            try with_reducible rfl
          try simp only [Act.put, List.setIfInBounds_toArray, List.set_cons_zero, List.set_cons_succ, List.getElem_toArray, List.getElem_cons_zero, List.getElem_cons_succ]
          refine' wpAnyE_take (i := 1) (v := _) rfl (by kernel_rfl) (by kernel_rfl) (by kernel_rfl) (fun _ _ _ h => h) (Or.inl ⟨by rfl, ?ly42⟩) (by assumption) (by kernel_rfl) ?lrest42
          case ly42 =>
            intro w hSw
            try dsimp only at hSw
            go_simp
            try with_reducible rfl
          try simp only [Act.put, List.setIfInBounds_toArray, List.set_cons_zero, List.set_cons_succ, List.getElem_toArray, List.getElem_cons_zero, List.getElem_cons_succ]
          refine' wpAnyE_take (i := 2) (v := _) rfl (by kernel_rfl) (by kernel_rfl) (by kernel_rfl) (fun _ _ _ h => h) (Or.inl ⟨by rfl, ?ly43⟩) (by assumption) (by kernel_rfl) ?lrest43
          case ly43 =>
            intro w hSw
            try dsimp only at hSw
            go_simp
            try with_reducible rfl
          try simp only [Act.put, List.setIfInBounds_toArray, List.set_cons_zero, List.set_cons_succ, List.getElem_toArray, List.getElem_cons_zero, List.getElem_cons_succ]
          refine' wpAnyE_take (i := 3) (v := _) rfl (by kernel_rfl) (by kernel_rfl) (by kernel_rfl) (fun _ _ _ h => h) (Or.inl ⟨by rfl, ?ly44⟩) (by assumption) (by kernel_rfl) ?lrest44
          case ly44 =>
            intro w hSw
            try dsimp only at hSw
            go_simp
            try with_reducible rfl
          try simp only [Act.put, List.setIfInBounds_toArray, List.set_cons_zero, List.set_cons_succ, List.getElem_toArray, List.getElem_cons_zero, List.getElem_cons_succ]
          refine' wpAnyE_take (i := 5) (v := _) rfl (by kernel_rfl) (by kernel_rfl) (by kernel_rfl) (fun _ _ _ h => h) (Or.inl ⟨by rfl, ?ly45⟩) (by assumption) (by kernel_rfl) ?lrest45
          case ly45 =>
            intro w hSw
            try dsimp only at hSw
            go_simp
            try with_reducible rfl
          try simp only [Act.put, List.setIfInBounds_toArray, List.set_cons_zero, List.set_cons_succ, List.getElem_toArray, List.getElem_cons_zero, List.getElem_cons_succ]
          refine' wpAnyE_take (i := 6) (v := _) rfl (by kernel_rfl) (by kernel_rfl) (by kernel_rfl) (fun _ _ _ h => h) (Or.inl ⟨by rfl, ?ly46⟩) (by assumption) (by kernel_rfl) ?lrest46
          case ly46 =>
            intro w hSw
            try dsimp only at hSw
            go_simp
            try with_reducible rfl
          try simp only [Act.put, List.setIfInBounds_toArray, List.set_cons_zero, List.set_cons_succ, List.getElem_toArray, List.getElem_cons_zero, List.getElem_cons_succ]
          refine' wpAnyE_take (i := 8) (v := _) rfl (by kernel_rfl) (by kernel_rfl) (by kernel_rfl) (fun _ _ _ h => h) (Or.inl ⟨by rfl, ?ly47⟩) (by assumption) (by kernel_rfl) ?lrest47
          case ly47 =>
            intro w hSw
            try dsimp only at hSw
            go_simp
            try with_reducible rfl
          try simp only [Act.put, List.setIfInBounds_toArray, List.set_cons_zero, List.set_cons_succ, List.getElem_toArray, List.getElem_cons_zero, List.getElem_cons_succ]
          refine' wpAnyE_take (i := 9) (v := _) rfl (by kernel_rfl) (by kernel_rfl) (by kernel_rfl) (fun _ _ _ h => h) (Or.inl ⟨by rfl, ?ly48⟩) (by assumption) (by kernel_rfl) ?lrest48
          case ly48 =>
            intro w hSw
            try dsimp only at hSw
            go_simp
            try with_reducible rfl
          try simp only [Act.put, List.setIfInBounds_toArray, List.set_cons_zero, List.set_cons_succ, List.getElem_toArray, List.getElem_cons_zero, List.getElem_cons_succ]
          refine' wpAnyE_take (i := 11) (v := _) rfl (by kernel_rfl) (by kernel_rfl) (by kernel_rfl) (fun _ _ _ h => h) (Or.inl ⟨by rfl, ?ly49⟩) (by assumption) (by kernel_rfl) ?lrest49
          case ly49 =>
            intro w hSw
            try dsimp only at hSw
            go_simp
            try with_reducible rfl
          try simp only [Act.put, List.setIfInBounds_toArray, List.set_cons_zero, List.set_cons_succ, List.getElem_toArray, List.getElem_cons_zero, List.getElem_cons_succ]
          refine' wpAnyE_take (i := 12) (v := _) rfl (by kernel_rfl) (by kernel_rfl) (by kernel_rfl) (fun _ _ _ h => h) (Or.inl ⟨by rfl, ?ly50⟩) (by assumption) (by kernel_rfl) ?lrest50
          case ly50 =>
            intro w hSw
            try dsimp only at hSw
            go_simp
            try with_reducible rfl
          try simp only [Act.put, List.setIfInBounds_toArray, List.set_cons_zero, List.set_cons_succ, List.getElem_toArray, List.getElem_cons_zero, List.getElem_cons_succ]
          refine wpAnyE_ready (rs := [4]) (by kernel_rfl) (by simp) ?_
          refine AllReadyE.cons rfl (fun K hK => ?_) AllReadyE.nil
          refine step_append_run rfl _ _ _ _ (by rfl) (by rfl) (by rfl) R1.out ?_
          refine hK.out _ _ (fun _ => U1.out) (fun hHeld => ?_)
          have hHeld := hHeld (by decide)
          clear hK K
          try simp only [Act.put, List.setIfInBounds_toArray, List.set_cons_zero, List.set_cons_succ, List.getElem_toArray, List.getElem_cons_zero, List.getElem_cons_succ]
          refine wpAnyE_ready (rs := [7]) (by kernel_rfl) (by simp) ?_
          refine AllReadyE.cons rfl (fun K hK => ?_) AllReadyE.nil
          refine step_append_run rfl _ _ _ _ (by rfl) (by rfl) (by rfl) R2.out ?_
          refine hK.out _ _ (fun _ => U2.out) (fun hHeld => ?_)
          have hHeld := hHeld (by decide)
          clear hK K
          try simp only [Act.put, List.setIfInBounds_toArray, List.set_cons_zero, List.set_cons_succ, List.getElem_toArray, List.getElem_cons_zero, List.getElem_cons_succ]
          refine wpAnyE_ready (rs := [10]) (by kernel_rfl) (by simp) ?_
          refine AllReadyE.cons rfl (fun K hK => ?_) AllReadyE.nil
          refine step_append_run rfl _ _ _ _ (by rfl) (by rfl) (by rfl) R3.out ?_
          refine hK.out _ _ (fun _ => U3.out) (fun hHeld => ?_)
          have hHeld := hHeld (by decide)
          clear hK K
          try simp only [Act.put, List.setIfInBounds_toArray, List.set_cons_zero, List.set_cons_succ, List.getElem_toArray, List.getElem_cons_zero, List.getElem_cons_succ]
          refine wpAnyE_ready (rs := [13]) (by kernel_rfl) (by simp) ?_
          refine AllReadyE.cons rfl (fun K hK => ?_) AllReadyE.nil
          refine step_append_run rfl _ _ _ _ (by rfl) (by rfl) (by rfl) R4.out ?_
          refine hK.out _ _ (fun _ => U4.out) (fun hHeld => ?_)
          have hHeld := hHeld (by decide)
          clear hK K
          try simp only [Act.put, List.setIfInBounds_toArray, List.set_cons_zero, List.set_cons_succ, List.getElem_toArray, List.getElem_cons_zero, List.getElem_cons_succ]
          refine' wpAnyE_take (i := 14) (v := _) rfl (by kernel_rfl) (by kernel_rfl) (by kernel_rfl) (fun _ _ _ h => h) (Or.inl ⟨by rfl, ?ly55⟩) (by assumption) (by kernel_rfl) ?lrest55
          case ly55 =>
            intro w hSw
            try dsimp only at hSw
            go_simp
            try with_reducible rfl
          try simp only [Act.put, List.setIfInBounds_toArray, List.set_cons_zero, List.set_cons_succ, List.getElem_toArray, List.getElem_cons_zero, List.getElem_cons_succ]
          refine wpAnyE_ready (rs := [15]) (by kernel_rfl) (by simp) ?_
          refine AllReadyE.cons rfl (fun K hK => ?_) AllReadyE.nil
          go_simp
          skip
          refine hK.out _ _ (fun _ => U5.out) (fun hHeld => ?_)
          have hHeld := hHeld (by decide)
          clear hK K
          try simp only [Act.put, List.setIfInBounds_toArray, List.set_cons_zero, List.set_cons_succ, List.getElem_toArray, List.getElem_cons_zero, List.getElem_cons_succ]
          refine wpAnyE_ready (rs := [16]) (by kernel_rfl) (by simp) ?_
          refine AllReadyE.cons rfl (fun K hK => ?_) AllReadyE.nil
          refine step_append_lies _ (by rfl) _ _ _ (by rfl) wi.heap.size 61 a0 (.agg #[.slice none 0 0, .slice none 0 0, .slice none 0 0, .slice none 0 0]) 4 96 Tryz.underlying24 ha ha0 ha1 ha2 rfl (by decide) _ k _ (by rfl) HOX.out ⟨w5.heap.size, 0, none⟩ 1 1 [.slice B1 n1 m1, .slice B2 n2 m2, .slice B3 n3 m3, .slice B4 n4 m4] (by rfl) rfl HNew.out (by intro u hu; simp at hu; rcases hu with rfl | rfl | rfl | rfl <;> rfl) (by decide) (by unfold maxLen; omega) (by omega) (by have := hbw.out; simp; omega) (w5.heap.size + 1) (by simp) ?_
          intro g' cap' wd hown' hgrow hat hglt
          have BP := Lib.hid (HP5.out.off (Keeps.row hgrow) (ownOff HOX.out) (by decide))
          have BM := HM5.out
          have hMg : (Value.slice T k ct).ownBlock ≠ some M := hMP.out
          have BM2 := BM.grown hgrow (fun e => hMg e.symm)
          have x0 := BP.out.cell 3
          have x1 := BM2.cell 0
          have x2 := BM2.cell 1
          have x3 := BM2.cell 2
          have x4 := BM2.cell 3
          simp at x0 x1 x2 x3 x4
          have z3 := BP.out.frozen 3
          have Hown := Lib.hid hown'
          have Hgrow := Lib.hid hgrow
          clear hown' hgrow hat hglt BM BM2
          refine hK.out _ _ (fun _ => ⟨x0, x1, x2, x3, x4⟩) (fun hHeld => ?_)
          have hHeld := hHeld (by decide)
          clear hK K
          try simp only [Act.put, List.setIfInBounds_toArray, List.set_cons_zero, List.set_cons_succ, List.getElem_toArray, List.getElem_cons_zero, List.getElem_cons_succ]
          refine' wpAnyE_take (i := 17) (v := _) rfl (by kernel_rfl) (by kernel_rfl) (by kernel_rfl) (fun _ _ _ h => h) (Or.inl ⟨by rfl, ?ly58⟩) (by assumption) (by kernel_rfl) ?lrest58
          case ly58 =>
            intro w hSw
            try dsimp only at hSw
            go_simp
            try with_reducible rfl
          try simp only [Act.put, List.setIfInBounds_toArray, List.set_cons_zero, List.set_cons_succ, List.getElem_toArray, List.getElem_cons_zero, List.getElem_cons_succ]
          refine wpAnyE_ready (rs := [18]) (by kernel_rfl) (by simp) ?_
          refine AllReadyE.cons rfl (fun K hK => ?_) AllReadyE.nil
          go_simp
          refine hK.out _ _ (fun h => absurd rfl h) (fun _ => ?_)
          clear hK K hHeld
          try simp only [Act.put, List.setIfInBounds_toArray, List.set_cons_zero, List.set_cons_succ, List.getElem_toArray, List.getElem_cons_zero, List.getElem_cons_succ]
          refine wpAnyE_done (by kernel_rfl) ?_
          have KQ := (Keeps.refl (fun x => x = P) wd).setCell (p := ⟨P, 3, none⟩) (Or.inl rfl) (.slice (some ⟨g', 0, none⟩) (k + 1) cap')
          have OQ : Off (fun x => x = P) wd [26] := fun x hx => ⟨_, _, _, by subst hx; exact BP.out, by simp⟩
          have HKz := Lib.hid ((Keeps.grown HK5.out Hgrow.out fun x hx => Or.inr (HOX.out.lt x hx).1).trans KQ)
          have HPz : RowKit.Hid (Blk (wd.setCell ⟨P, 3, none⟩ (.slice (some ⟨g', 0, none⟩) (k + 1) cap')) P 26 #[.slice Tg NG tg, .slice Tt NT tt, .slice A5 NH c5, .slice (some ⟨g', 0, none⟩) (k + 1) cap']) := Lib.hid (BP.out.set_ 3 _)
          have HAz : RowKit.Hid (AcRow (wd.setCell ⟨P, 3, none⟩ (.slice (some ⟨g', 0, none⟩) (k + 1) cap')) wi.heap.size (.slice (some ⟨g', 0, none⟩) (k + 1) cap') (p.acls.take (k + 1))) := by
            refine Lib.hid ⟨ys ++ [⟨⟨ps, ss, ds, os⟩, .slice B1 n1 m1, .slice B2 n2 m2, .slice B3 n3 m3, .slice B4 n4 m4⟩], by rw [List.map_append, HYs.out, HTk.out]; rfl, ?_, ?_⟩
            · rw [HTk.out, List.length_append, HTl.out, acCells_snoc]
              exact own_off Hown.out KQ OQ (by decide)
            · intro x hx
              rcases List.mem_append.1 hx with hx | hx
              · exact ((HIy.out x hx).keep (Keeps.row Hgrow.out) (ownOff HOX.out) (by decide) (by decide) (by decide)).keep KQ OQ (by decide) (by decide) (by decide)
              · rw [List.mem_singleton.1 hx]
                exact (HMem.out.keep (Keeps.row Hgrow.out) (ownOff HOX.out) (by decide) (by decide) (by decide)).keep KQ OQ (by decide) (by decide) (by decide)
          clear KQ OQ BP Hown Hgrow HK5 HP5 HM5 HOX HIy HYs HMem HNew U1 U2 U3 U4 U5 R1 R2 R3 R4 M1 HBa HPa z3 x0 x1 x2 x3 x4 y0 y1 y2 y3 y4
          generalize wd.setCell ⟨P, 3, none⟩ (.slice (some ⟨g', 0, none⟩) (k + 1) cap') = we at HKz HPz HAz ⊢
          go_wp2_with fail
          go_roundw
          case rel => exact ⟨k + 1, some ⟨g', 0, none⟩, cap', by omega, by go_num, HPz, HAz, HKz⟩
          case measure => simp [intOf]; omega
        obtain rfl : NA = k := by omega
        obtain ⟨wz, rfl⟩ : ∃ wz : World, wz = wr := ⟨_, rfl⟩
        have HAz : RowKit.Hid (AcRow wz wi.heap.size (.slice T NA ct) p.acls) := Lib.hid (by have := HAr.out; rw [List.take_of_length_le (by have := HNA.out; omega)] at this; exact this)
        have OP : Off (fun x => x = P) wi [26] := fun x hx => ⟨_, _, _, by subst hx; exact HPi.out, List.mem_singleton.2 rfl⟩
        have HGz := Lib.hid (HGi.out.off HKr.out OP (by decide) (by decide))
        have HTz := Lib.hid (HTi.out.off HKr.out OP (by decide) (by decide))
        have HOz := Lib.hid (own_off HOi.out HKr.out OP (by decide))
        have HRz := Lib.hid (HRi.out.keep HKr.out hRP.out)
        clear OP HAr HKr HPi HQi HRi HKi HGi HTi HOi HDi
        have x0 := HPr.out.cell 0
        have x1 := HPr.out.cell 1
        have x2 := HPr.out.cell 2
        have x3 := HPr.out.cell 3
        have r0 := HRz.out.cell 0
        have r1 := HRz.out.cell 1
        have r2 := HRz.out.cell 2
        have r3 := HRz.out.cell 3
        simp at x0 x1 x2 x3 r0 r1 r2 r3
        have z0 := HRz.out.frozen 0
        have z1 := HRz.out.frozen 1
        have z2 := HRz.out.frozen 2
        have z3 := HRz.out.frozen 3
        go_wp2_with fail
        have KR := ((((Keeps.refl (fun x => x = R) wz).setCell (p := ⟨R, 0, none⟩) (Or.inl rfl) (.slice Tg NG tg)).setCell (p := ⟨R, 1, none⟩) (Or.inl rfl) (.slice Tt NT tt)).setCell (p := ⟨R, 2, none⟩) (Or.inl rfl) (.slice A5 NH c5)).setCell (p := ⟨R, 3, none⟩) (Or.inl rfl) (.slice T NA ct)
        have OR : Off (fun x => x = R) wz [26] := fun x hx => ⟨_, _, _, by subst hx; exact HRz.out, by simp⟩
        have BR := (((HRz.out.set_ 0 (.slice Tg NG tg)).set_ 1 (.slice Tt NT tt)).set_ 2 (.slice A5 NH c5)).set_ 3 (.slice T NA ct)
        have hbb := HBr.out.trans (KR.low (fun x hx => by subst hx; exact hRw.out) HBr.out.size)
        refine bodyPost_ret (results_c (x := 2) rfl rfl (load4 BR)) rfl ⟨⟨⟨.slice Tg NG tg, .slice Tt NT tt, .slice A5 NH c5, .slice T NA ct⟩, rfl, ⟨(HGz.out.off KR OR (by decide) (by decide)).rd, (HTz.out.off KR OR (by decide) (by decide)).rd, RowR.of_own' (own_off HOz.out KR OR (by decide)) HNH.out.symm, (HAz.out.off KR OR (by decide) (by decide) (by decide) (by decide)).rd⟩⟩, hbb⟩
end Go.Proofs.YthglckoikjfjkaaGreatDoor
