/- Joined out of: CpP AgA. -/
import Derived.Test.YthglckoikjfjkaaGreatDoorSaz
import Derived.Test.YthglckoikjfjkaaGreatDoorSap
set_option linter.unusedVariables false
set_option linter.unusedSimpArgs false

/- Nodes with lists of their own (CopyPeers): the walk. (printed by cppeers.py) -/
namespace Go.Proofs.YthglckoikjfjkaaGreatDoor
open Go.RowKit
attribute [local go_sem ↓] Go.wp_at_zero Go.wp_at_succ

section
variable {P : Program}
theorem wpList_append_ran {ops : Array Oper} {rest : List Oper} {o : Oper} {a : Act} {w w' : World} {Q : Exit → Act → World → Prop} (hgd : o.guard = none) (s x : Operand) (t u : TypeId)
    (ho : o.op = .call { callee := .builtin .append, args := #[s, x], argTypes := #[t, u] }) {v y v' : Value} (hs : a.eval s = v) (hx : a.eval x = y)
    (hr : (Builtin.append_ #[t, u] o.type #[v, y]).run P w = .ok v' w') (h : wpList P ops Q rest (a.put o.dst v') w') : wpList P ops Q (o :: rest) a w := by
  refine wpList_plain hgd fun K hK => ?_
  unfold Oper.wp execOp
  simp only [ho, resolve, invoke, builtin, Sem.run_bind, Sem.run_pure, Result.andThen_ok, List.map_toArray, List.map_cons, List.map_nil, hs, hx, hr]
  exact hK _ _ h
end
theorem info_ad : (Tryz.prog.info? 40).map (fun i => (i.zero, i.size, i.bytes)) = some (some (.agg #[.bool false, .int .u64 0, .int .u64 0]), 3, 24) := by kernel_rfl
theorem info_en : (Tryz.prog.info? 290).map (fun i => (i.zero, i.size, i.bytes)) = some (some (.agg #[.bool false, .int .u64 0, .int .u64 0, .int .u16 0]), 4, 32) := by kernel_rfl
theorem one_ad (l : List Ad) : ∀ u ∈ adCells l, u.oneCell' = true := by
  intro u hu
  obtain ⟨s, _, hs⟩ := List.mem_flatMap.1 hu
  simp [Ad.cells] at hs
  rcases hs with rfl | rfl | rfl <;> rfl
theorem own_setcell {w : World} {base size n M k : Nat} {e : TypeId} {v u : Value} {xs : List Value} (h : w.ownsRow base e size v n xs) (hM : M < base) : (w.setCell ⟨M, k, none⟩ u).ownsRow base e size v n xs :=
  own_keep (S := fun x => x = M) h ((Keeps.refl (fun x => x = M) w).setCell (p := ⟨M, k, none⟩) (Or.inl rfl) u) fun g hg e => by have := (h.lt g hg).1; omega
/- A node whose lists are its own. -/
structure PeOwn (w : World) (base : Nat) (X : PeV) : Prop where
  tags : w.ownsRow base 9 1 X.tg X.x.tags.length (strCells X.x.tags)
  addrs : w.ownsRow base 40 3 X.ad X.x.addrs.length (adCells X.x.addrs)
  ends : ∃ es : List (Ad × Nat), w.ownsRow base 290 4 X.en es.length (enCells es)
  tl : X.x.tags.length ≤ 4000000
  al : X.x.addrs.length ≤ 4000000
theorem PeOwn.keep {S : Nat → Prop} {w w' : World} {T : List TypeId} {base : Nat} {x : PeV} (h : PeOwn w base x) (hk : Keeps S w w') (ho : Off S w T) (h1 : 9 ∉ T) (h2 : 40 ∉ T) (h3 : 290 ∉ T) : PeOwn w' base x := by
  obtain ⟨es, he⟩ := h.ends
  exact ⟨own_off h.tags hk ho h1, own_off h.addrs hk ho h2, ⟨es, own_off he hk ho h3⟩, h.tl, h.al⟩
theorem PeOwn.low {w w' : World} {base : Nat} {x : PeV} (h : PeOwn w base x) (hb : Below w.heap.size w w') : PeOwn w' base x := by
  obtain ⟨es, he⟩ := h.ends
  exact ⟨own_below h.tags hb, own_below h.addrs hb, ⟨es, own_below he hb⟩, h.tl, h.al⟩
theorem PeOwn.rd {w : World} {base : Nat} {x : PeV} (h : PeOwn w base x) : PeMem w x := by
  obtain ⟨es, he⟩ := h.ends
  obtain ⟨A, c, e⟩ := own_shape he
  exact ⟨RowR.of_own h.tags, RowR.of_own h.addrs, ⟨A, _, c, e⟩, h.tl, h.al⟩

set_option maxHeartbeats 16000000 in
set_option maxRecDepth 100000 in
theorem copyPeers_any {w : World} {pv : Value} {xs : List PeV} (hp : PeRdIn w pv xs) :
    Calls Tryz.prog 9 #[pv] w fun r w' => (∃ (A : Option Addr) (c : Nat), r = .returned (.slice A xs.length c) ∧ PeRd w' (.slice A xs.length c) (xs.map (·.x))) ∧ Below w.heap.size w w' := by
  obtain ⟨hpr, hpi, hpl⟩ := hp
  obtain ⟨Ap, cp, rfl⟩ := hpr.shape
  obtain ⟨NL, hNL⟩ : ∃ n, n = xs.length := ⟨_, rfl⟩
  rw [← hNL] at hpr hpl ⊢
  have htk : xs.take NL = xs := by rw [hNL]; exact List.take_of_length_le (Nat.le_refl _)
  have HNL := Lib.hid hNL
  have HPr := Lib.hid hpr
  have HPi := Lib.hid hpi
  have HTk := Lib.hid htk
  obtain ⟨s0, hsn, hs0, hs1, hs2⟩ := info_parts info_str
  obtain ⟨a0, han, ha0, ha1, ha2⟩ := info_parts info_ad
  obtain ⟨e0, hen, he0, he1, he2⟩ := info_parts info_en
  obtain ⟨j0, hj, hj0, hj1, hj2⟩ := info_parts info_pe
  clear hNL hpr hpi htk
  go_enter Tryz.func9, Tryz.ntmps9
  go_wp2_with fail
  go_loopw [3, 4] (fun v3 v4 wr => ∃ (k : Nat) (A : Option Addr) (c : Nat) (ys : List PeV), k ≤ NL ∧ v4 = .int .i64 (k : Int) ∧ v3 = .slice A k c ∧ RowKit.Hid (wr.ownsRow w.heap.size 53 8 (.slice A k c) k (peCells ys)) ∧ RowKit.Hid (∀ Y ∈ ys, PeOwn wr w.heap.size Y) ∧ RowKit.Hid (ys.map (·.x) = (xs.take k).map (·.x)) ∧ RowKit.Hid (ys.length = k) ∧ RowKit.Hid (Below w.heap.size w wr)) (fun _ v4 _ => NL - (intOf v4).toNat)
  case atStart => exact ⟨0, none, 0, [], Nat.zero_le _, rfl, rfl, Lib.hid (World.ownsRow_nil _ _ _ _), Lib.hid (fun Y hY => by cases hY), Lib.hid rfl, Lib.hid rfl, Lib.hid (Below.refl _ _)⟩
  case round =>
    obtain ⟨k, A, c, ys, hk, rfl, rfl, how, hys, hmap, hyl, hbw⟩ := hrel
    obtain ⟨wo, rfl⟩ : ∃ wo : World, wo = wr := ⟨_, rfl⟩
    by_cases hlt : k < NL
    case pos =>
      have hil : k < xs.length := by have := HNL.out; omega
      have hXi : xs[k]? = some xs[k] := List.getElem?_eq_getElem hil
      have hXm := HPi.out _ (List.getElem_mem hil)
      generalize xs[k] = X at hXi hXm
      obtain ⟨q, o, rfl, hc⟩ := HPr.out.cell hbw.out (by omega)
      obtain ⟨key, disco, us, A1, n1, c1, A2, c2, ex, relay, A3, n3, c3, hXc, hXa, _⟩ := pe_open4 hXm
      have htn := take_next hXi
      have hvt : X.tg = .slice A1 n1 c1 := by have := hXc; unfold PeV.cells at this; simp at this; exact this.2.2.2.1
      have hve : X.en = .slice A3 n3 c3 := by have := hXc; unfold PeV.cells at this; simp at this; exact this.2.2.2.2.2.2.2
      have hvk : X.key = key ∧ X.disco = disco ∧ X.x.user = us ∧ X.exp = ex ∧ X.relay = relay := by have := hXc; unfold PeV.cells at this; simp at this; exact ⟨this.1, this.2.1, this.2.2.1, by omega, by omega⟩
      have rt := hXm.mem.tags
      have ra := hXm.mem.addrs
      obtain ⟨es, re, hel⟩ := hXm.ends
      have htl := hXm.tl
      have hal := hXm.al
      rw [hvt] at rt
      rw [hXa] at ra
      rw [hve] at re
      have en1 : n1 = X.x.tags.length := by obtain ⟨_, _, e, _⟩ := rt; injection e
      have en3 : n3 = es.length := by obtain ⟨_, _, e, _⟩ := re; injection e
      obtain ⟨n2, en2⟩ : ∃ n, n = X.x.addrs.length := ⟨_, rfl⟩
      rw [← en1] at rt htl
      rw [← en2] at ra hal hXc
      rw [← en3] at re hel
      have d0 := hc _ _ (pe_cell hXi hXc (r := 0) rfl)
      have d1 := hc _ _ (pe_cell hXi hXc (r := 1) rfl)
      have d2 := hc _ _ (pe_cell hXi hXc (r := 2) rfl)
      have d3 := hc _ _ (pe_cell hXi hXc (r := 3) rfl)
      have d4 := hc _ _ (pe_cell hXi hXc (r := 4) rfl)
      have d5 := hc _ _ (pe_cell hXi hXc (r := 5) rfl)
      have d6 := hc _ _ (pe_cell hXi hXc (r := 6) rfl)
      have d7 := hc _ _ (pe_cell hXi hXc (r := 7) rfl)
      rw [Nat.add_zero] at d0
      rw [← Nat.add_assoc] at d1 d2 d3 d4 d5 d6 d7
      have RT := Lib.hid rt
      have RA := Lib.hid ra
      have RE := Lib.hid re
      have HTn := Lib.hid htn
      have HN1 := Lib.hid en1
      have HN2 := Lib.hid en2
      have HN3 := Lib.hid en3
      have HVk := Lib.hid hvk
      obtain ⟨tags, etg⟩ : ∃ t, t = X.x.tags := ⟨_, rfl⟩
      obtain ⟨addrs, ead⟩ : ∃ t, t = X.x.addrs := ⟨_, rfl⟩
      rw [← etg] at RT HN1
      rw [← ead] at RA HN2
      have hxx : X.x = ⟨us, tags, addrs⟩ := by rw [etg, ead, ← HVk.out.2.2.1]
      have HXx := Lib.hid hxx
      clear etg ead hxx
      clear hc hXi hXm hXc hXa hvt hve hvk rt ra re en1 en2 en3 htn hil
      go_upto_region 6 with fail
      have hm0 := Blk.new wo 53 #[.string key, .string disco, .string us, .slice A1 n1 c1, .slice A2 n2 c2, .int .u64 (ex : Int), .int .u8 (relay : Int), .slice A3 n3 c3]
      have hb0 := boxed wo (.cells #[.string key, .string disco, .string us, .slice A1 n1 c1, .slice A2 n2 c2, .int .u64 (ex : Int), .int .u8 (relay : Int), .slice A3 n3 c3] 53)
      have hM : wo.heap.size < (wo.alloc (.cells #[.string key, .string disco, .string us, .slice A1 n1 c1, .slice A2 n2 c2, .int .u64 (ex : Int), .int .u8 (relay : Int), .slice A3 n3 c3] 53)).heap.size := by simp
      generalize hM2 : wo.heap.size = M at hm0 hM ⊢
      have hMle : wo.heap.size ≤ M := by omega
      generalize wo.alloc (.cells #[.string key, .string disco, .string us, .slice A1 n1 c1, .slice A2 n2 c2, .int .u64 (ex : Int), .int .u8 (relay : Int), .slice A3 n3 c3] 53) = w5 at hm0 hb0 hM ⊢
      clear d0 d1 d2 d3 d4 d5 d6 d7
      have HMle := Lib.hid hMle
      clear hM2 hMle
      have y3 := hm0.cell 3
      simp at y3
      obtain ⟨B1, m1, u1, hr1, hw1, db1⟩ := append_row (P := Tryz.prog) w5 w5.heap.size 50 50 9 s0 (.string ByteArray.empty) 1 16 Tryz.underlying50 hsn hs0 hs1 hs2 rfl (by decide) (RT.out.below (after hbw.out hb0)) (one_str tags) (by omega) (by decide) (Nat.le_refl _)
      have R1 := Lib.hid hr1
      have m1' := hm0.below db1 hm0.lt
      have f3 := m1'.frozen 3
      have y3' := m1'.cell 3
      simp at y3'
      have M1 := Lib.hid (m1'.set_ 3 (.slice B1 n1 m1))
      have hb1 : Below wo.heap.size wo (u1.setCell ⟨M, 3, none⟩ (.slice B1 n1 m1)) := (hb0.trans (db1.mono hb0.size)).setCell (p := ⟨M, 3, none⟩) HMle.out _
      have HO1 := Lib.hid (own_setcell (k := 3) (u := .slice B1 n1 m1) hw1 hM)
      have HS1 : RowKit.Hid (M < w5.heap.size ∧ w5.heap.size ≤ (u1.setCell ⟨M, 3, none⟩ (.slice B1 n1 m1)).heap.size) := Lib.hid ⟨hM, by have := db1.size; simp; omega⟩
      have HB1 := Lib.hid hb1
      clear hr1 hw1 db1 m1' hb1
      go_upto_region 7 with (at_builtin; refine wpList_append_ran rfl _ _ _ _ rfl rfl rfl R1.out ?_)
      generalize u1.setCell ⟨M, 3, none⟩ (.slice B1 n1 m1) = v1 at M1 HO1 HS1 HB1 ⊢
      clear y3 y3' f3 hm0 hb0 hM
      have y4 := M1.out.cell 4
      simp at y4
      obtain ⟨B2, m2, u2, hr2, hw2, db2⟩ := append_row (P := Tryz.prog) v1 w5.heap.size 28 28 40 a0 (.agg #[.bool false, .int .u64 0, .int .u64 0]) 3 24 Tryz.underlying28 han ha0 ha1 ha2 rfl (by decide) (RA.out.below (hbw.out.trans (HB1.out.mono hbw.out.size))) (one_ad addrs) (by omega) (by decide) HS1.out.2
      have R2 := Lib.hid hr2
      have m2' := M1.out.below db2 M1.out.lt
      have f4 := m2'.frozen 4
      have y4' := m2'.cell 4
      simp at y4'
      have M2 := Lib.hid (m2'.set_ 4 (.slice B2 n2 m2))
      have hb2 : Below wo.heap.size wo (u2.setCell ⟨M, 4, none⟩ (.slice B2 n2 m2)) := (HB1.out.trans (db2.mono HB1.out.size)).setCell (p := ⟨M, 4, none⟩) HMle.out _
      have HO2 := Lib.hid (own_setcell (k := 4) (u := .slice B2 n2 m2) hw2 HS1.out.1)
      have HO1b := Lib.hid (own_setcell (k := 4) (u := .slice B2 n2 m2) (own_below HO1.out db2) HS1.out.1)
      have HS2 : RowKit.Hid (M < w5.heap.size ∧ w5.heap.size ≤ (u2.setCell ⟨M, 4, none⟩ (.slice B2 n2 m2)).heap.size) := Lib.hid ⟨HS1.out.1, by have := db2.size; have := HS1.out.2; simp; omega⟩
      have HB2 := Lib.hid hb2
      clear hr2 hw2 db2 m2' hb2 HO1 HB1
      go_upto_region 8 with (at_builtin; refine wpList_append_ran rfl _ _ _ _ rfl rfl rfl R2.out ?_)
      generalize u2.setCell ⟨M, 4, none⟩ (.slice B2 n2 m2) = v2 at M2 HO2 HO1b HS2 HB2 ⊢
      clear y4 y4' f4 M1 HS1
      have y7 := M2.out.cell 7
      simp at y7
      obtain ⟨B3, m3, u3, hr3, hw3, db3⟩ := append_row (P := Tryz.prog) v2 w5.heap.size 51 51 290 e0 (.agg #[.bool false, .int .u64 0, .int .u64 0, .int .u16 0]) 4 32 Tryz.underlying51 hen he0 he1 he2 rfl (by decide) (RE.out.below (hbw.out.trans (HB2.out.mono hbw.out.size))) (en_one es) (by omega) (by decide) HS2.out.2
      have R3 := Lib.hid hr3
      have m3' := M2.out.below db3 M2.out.lt
      have f7 := m3'.frozen 7
      have y7' := m3'.cell 7
      simp at y7'
      have M3 := Lib.hid (m3'.set_ 7 (.slice B3 n3 m3))
      have hb3 : Below wo.heap.size wo (u3.setCell ⟨M, 7, none⟩ (.slice B3 n3 m3)) := (HB2.out.trans (db3.mono HB2.out.size)).setCell (p := ⟨M, 7, none⟩) HMle.out _
      have HO3 := Lib.hid (own_setcell (k := 7) (u := .slice B3 n3 m3) hw3 HS2.out.1)
      have HO1c := Lib.hid (own_setcell (k := 7) (u := .slice B3 n3 m3) (own_below HO1b.out db3) HS2.out.1)
      have HO2c := Lib.hid (own_setcell (k := 7) (u := .slice B3 n3 m3) (own_below HO2.out db3) HS2.out.1)
      have HB3 := Lib.hid hb3
      clear hr3 hw3 db3 m3' hb3 HO1b HO2 HB2
      go_upto_region 9 with (at_builtin; refine wpList_append_ran rfl _ _ _ _ rfl rfl rfl R3.out ?_)
      generalize u3.setCell ⟨M, 7, none⟩ (.slice B3 n3 m3) = v3 at M3 HO3 HO1c HO2c HB3 ⊢
      clear y7 y7' f7 M2
      have hbs : w.heap.size ≤ w5.heap.size := by have h1 := hbw.out.size; have h2 := HMle.out; have h3 := HS2.out.1; omega
      have z0 := M3.out.cell 0
      have z1 := M3.out.cell 1
      have z2 := M3.out.cell 2
      have z3 := M3.out.cell 3
      have z4 := M3.out.cell 4
      have z5 := M3.out.cell 5
      have z6 := M3.out.cell 6
      have z7 := M3.out.cell 7
      simp at z0 z1 z2 z3 z4 z5 z6 z7
      have howx : v3.ownsRow w.heap.size 53 8 (.slice A k c) k (peCells ys) := own_keep (S := fun x => wo.heap.size ≤ x) how.out (Keeps.of_below HB3.out fun x _ hx => by omega) fun g hg hs => by have := (how.out.lt g hg).2; omega
      have HOw := Lib.hid howx
      have hysx : ∀ Y ∈ ys, PeOwn v3 w.heap.size Y := fun Y hY => (hys.out Y hY).low HB3.out
      have hnew : PeOwn v3 w.heap.size ⟨⟨us, tags, addrs⟩, key, disco, .slice B1 n1 m1, .slice B2 n2 m2, ex, relay, .slice B3 n3 m3⟩ := ⟨by simp only; rw [← HN1.out]; exact HO1c.out.mono hbs, by simp only; rw [← HN2.out]; exact HO2c.out.mono hbs, ⟨es, by rw [← HN3.out]; exact HO3.out.mono hbs⟩, by show tags.length ≤ _; have := HN1.out; omega, by show addrs.length ≤ _; have := HN2.out; omega⟩
      have HYs := Lib.hid hysx
      have HNew := Lib.hid hnew
      have HBv := Lib.hid (hbw.out.trans (HB3.out.mono hbw.out.size))
      clear howx hysx hnew how hys hbw hbs
      go_wp2_with (at_builtin; refine wpList_append_own _ rfl _ _ 27 rfl w.heap.size 53 j0 (.agg #[.string ⟨#[]⟩, .string ⟨#[]⟩, .string ⟨#[]⟩, .slice none 0 0, .slice none 0 0, .int .u64 0, .int .u8 0, .slice none 0 0]) 8 136 Tryz.underlying27 hj hj0 hj1 hj2 rfl (by decide) _ k _ rfl (HOw.out.alloc _) ⟨(v3).heap.size, 0, none⟩ 1 1 [.string key, .string disco, .string us, .slice B1 n1 m1, .slice B2 n2 m2, .int .u64 (ex : Int), .int .u8 (relay : Int), .slice B3 n3 m3] rfl rfl (cells_new (v3) [.string key, .string disco, .string us, .slice B1 n1 m1, .slice B2 n2 m2, .int .u64 (ex : Int), .int .u8 (relay : Int), .slice B3 n3 m3] 53) (by intro u hu; simp at hu; rcases hu with rfl | rfl | rfl | rfl | rfl | rfl | rfl | rfl <;> rfl) (by unfold maxLen; omega) (by omega) (by have := HBv.out.size; simp; omega) ?_; intro v' wz hown' hgrow' hnil'; have hsh := own_shape hown'; (obtain ⟨A8, c8, rfl⟩ := hsh); have HO8 := Lib.hid hown'; have HB8 := Lib.hid ((HBv.out.alloc (HBv.out.size) _).grown hgrow' (by have := HBv.out.size; simp; omega) (fun q hq => (HOw.out.lt q hq).1)); have HG8 := Lib.hid hgrow'; clear hown' hgrow' hnil')
      go_roundw
      case rel =>
        refine ⟨k + 1, A8, c8, ys ++ [⟨⟨us, tags, addrs⟩, key, disco, .slice B1 n1 m1, .slice B2 n2 m2, ex, relay, .slice B3 n3 m3⟩], by omega, by go_num, rfl, Lib.hid (by rw [peCells_snoc]; exact HO8.out), Lib.hid ?_, Lib.hid ?_, Lib.hid (by rw [List.length_append, hyl.out]; rfl), HB8⟩
        · intro Y hY
          have hoff := ownOff (HOw.out.alloc (.cells #[.string key, .string disco, .string us, .slice B1 n1 m1, .slice B2 n2 m2, .int .u64 (ex : Int), .int .u8 (relay : Int), .slice B3 n3 m3] 53))
          rcases List.mem_append.1 hY with hY | hY
          · exact ((HYs.out Y hY).low (boxed _ _)).keep (Keeps.row HG8.out) hoff (by decide) (by decide) (by decide)
          · rw [List.mem_singleton.1 hY]
            exact (HNew.out.low (boxed _ _)).keep (Keeps.row HG8.out) hoff (by decide) (by decide) (by decide)
        · rw [HTn.out, List.map_append, List.map_append, hmap.out]
          congr 1
          simp only [List.map_cons, List.map_nil]
          congr 1
          exact HXx.out.symm
      case measure => simp [intOf]; omega
    obtain rfl : NL = k := by omega
    have hmm := hmap.out
    rw [HTk.out] at hmm
    have hrd : PeRd wo (.slice A NL c) (xs.map (·.x)) := ⟨ys, hmm, by rw [hyl.out]; exact RowR.of_own how.out, fun Y hY => (hys.out Y hY).rd⟩
    have HRd := Lib.hid hrd
    clear hmm hrd how hys hmap hyl
    go_wp2_with fail
    go_ret
    exact ⟨⟨A, c, rfl, HRd.out⟩, hbw.out⟩
end Go.Proofs.YthglckoikjfjkaaGreatDoor

/- What was made ready says the same as the policy of every flow to one of a node's addresses (RulesAgree): the walk. (printed by agree.py) -/
namespace Go.Proofs.YthglckoikjfjkaaGreatDoor
open Go.RowKit
attribute [local go_sem ↓] Go.wp_at_zero Go.wp_at_succ

theorem pairs_small (p : Po) (s : Sel) (l : List Pe) : (l.flatMap (pairsL p s)).length ≤ (l.map fun x => x.addrs.length).sum := by
  induction l with
  | nil => exact Nat.le_refl _
  | cons x r ih =>
    rw [List.flatMap_cons, List.length_append, List.map_cons, List.sum_cons]
    have h1 : (pairsL p s x).length ≤ x.addrs.length := by
      unfold pairsL
      split
      · rw [List.length_map]; exact Nat.le_refl _
      · exact Nat.zero_le _
    omega
theorem spans_small {p : Po} {l : List Pe} (h : (l.map fun x => x.addrs.length).sum ≤ 400) (s : Sel) : (spansL p l s).length ≤ 402 := by
  by_cases h1 : s.kind = 1
  · unfold spansL; rw [if_pos h1]; show (2 : Nat) ≤ 402; decide
  by_cases h5 : s.kind = 5
  · unfold spansL
    rw [if_neg h1, if_pos h5]
    split
    · show (1 : Nat) ≤ 402; decide
    · show (0 : Nat) ≤ 402; decide
  by_cases h6 : s.kind = 6
  · unfold spansL; rw [if_neg h1, if_neg h5, if_pos h6]; show (1 : Nat) ≤ 402; decide
  rw [spansL_other h1 h5 h6]
  have := pairs_small p s l
  omega
theorem sels_small {p : Po} {l : List Pe} (h : (l.map fun x => x.addrs.length).sum ≤ 400) : ∀ ss : List Sel, (ss.flatMap (spansL p l)).length ≤ 402 * ss.length := by
  intro ss
  induction ss with
  | nil => exact Nat.le_refl _
  | cons s r ih =>
    rw [List.flatMap_cons, List.length_append, List.length_cons]
    have := spans_small (p := p) h s
    omega
theorem heavy_small {p : Po} {l : List Pe} (h1 : ∀ a ∈ p.acls, a.src.length ≤ 400) (h2 : sumA l l.length ≤ 400) : ∀ a ∈ p.acls, (a.src.flatMap (spansL p l)).length ≤ 2000000 := by
  intro a ha
  rw [sumA_end] at h2
  have := sels_small (p := p) h2 a.src
  have := h1 a ha
  omega
def AgreeR (K : Bool) (p : Po) (l : List Pe) (own : List Ad) (rs : List Rl) : Prop := (K = true → Made p l own p.acls rs) ∧ (K = false → rs = [])

set_option maxHeartbeats 32000000 in
set_option maxRecDepth 100000 in
theorem agree_any {w : World} (env : Env w) {V : PoV} {p : Po} (h : PoRd w V p) (fit : PoFit p) {pv : Value} {xs : List PeV} (hp : PeRdIn w pv xs) {ov : Value} {own : List Ad} (ho : RowR w ov own.length 3 (adCells own)) (oo : ∀ a ∈ own, a.Ok) (hol : own.length ≤ 1048576) {fv : Value} {fls : List Fw} (hfl : RowR w fv fls.length 9 (flCells fls)) (fo : ∀ f ∈ fls, FwOk f) (hfn : fls.length ≤ 1048576) :
    Calls Tryz.prog 3 #[.agg #[V.g, V.t, V.h, V.a], pv, ov, fv] w (Got (.bool true) w) := by
  have hwk := fun u (hu : Below w.heap.size w u) => works_any (env.below hu)
  have hhv := fun u (hu : Below w.heap.size w u) => heavy5_any p (h.below hu) fit (hp.below hu)
  have hcp := fun u (hu : Below w.heap.size w u) => copy_any p (h.below hu) fit
  have hcq := fun u (hu : Below w.heap.size w u) => copyPeers_any (hp.below hu)
  have pk : ∀ x ∈ xs.map (·.x), ∀ b ∈ x.addrs, b.Ok := fun x hx b hb => by
    obtain ⟨X, hX, rfl⟩ := List.mem_map.1 hx
    exact (hp.2.1 X hX).ok b hb
  have hco := fun u (hu : Below w.heap.size w u) (Y : PoV) (qv qo : Value) (hY : PoRd u Y p) (hq : PeRd u qv (xs.map (·.x))) (hr : RowR u qo own.length 3 (adCells own)) (sm : ∀ a ∈ p.acls, (a.src.flatMap (spansL p (xs.map (·.x)))).length ≤ 2000000) =>
    compile_any (env.below hu) hY fit hq (by rw [List.length_map]; have := hp.2.2; omega) pk hr (by omega) oo sm
  have hper := fun u (hu : Below w.heap.size w u) (f : Fw) (of : f.src.Ok) (od : f.dst.Ok) (e : HdX) => permits_any (env.below hu) (h.below hu) fit (hp.rd.below hu) (by rw [List.length_map]; have := hp.2.2; omega) f of od e
  have hma := fun u (hu : Below w.heap.size w u) qv rs (hr : RlRd u qv rs) (hl : rs.length ≤ 4000000) (f : Fw) (of : f.src.Ok) (od : f.dst.Ok) (e : HdX) => match_any (env.below hu) hr hl f of od e
  have hsm := fun (z : (∀ a ∈ p.acls, a.src.length ≤ 400) ∧ sumA (xs.map (·.x)) xs.length ≤ 400) => heavy_small (p := p) (l := xs.map (·.x)) z.1 (by rw [List.length_map]; exact z.2)
  have hao := fun (hm : mayP p = true) => all_ok (p := p) (l := xs.map (·.x)) (fun x hx => (fit.h x hx).2) hm pk
  have hal := fit.al
  obtain ⟨Ag, At, Ah, Aa, cg, ct, ch, ca, rfl⟩ := copied h
  have hshape : ∀ (u : World) (Y : PoV), PoRd u Y p → ∃ (Bg Bt Bh Ba : Option Addr) (mg mt mh ma : Nat), Y = ⟨.slice Bg p.groups.length mg, .slice Bt p.tags.length mt, .slice Bh p.hosts.length mh, .slice Ba p.acls.length ma⟩ := fun u Y hY => copied hY
  have hnl : xs.length ≤ 1048576 := hp.2.2
  obtain ⟨Ap, cp, rfl⟩ := hp.1.shape
  obtain ⟨Ao, co, rfl⟩ := ho.shape
  obtain ⟨Af, cf, rfl⟩ := hfl.shape
  obtain ⟨e0, hen, he0, he1, he2⟩ := info_parts info_ad
  simp only at hhv hcp hper
  have hlm : (xs.map (·.x)).length = xs.length := by rw [List.length_map]
  obtain ⟨K, hK⟩ : ∃ K, K = okP p := ⟨_, rfl⟩
  have hkm : K = true → mayP p = true := fun e => okP_may (hK ▸ e)
  have hkp : K = true → ∀ f, permitsP p (xs.map (·.x)) f = p.acls.any (acP' p (xs.map (·.x)) f) := fun e f => by
    unfold permitsP
    rw [← hK, e, Bool.true_and]
  rw [← hK] at hco
  generalize p.groups.length = NG at *
  generalize p.tags.length = NT at *
  generalize p.hosts.length = NH at *
  obtain ⟨NA, hNA⟩ : ∃ n, n = p.acls.length := ⟨_, rfl⟩
  rw [← hNA] at hhv hcp hper hshape hal ⊢
  obtain ⟨NL, hNL⟩ : ∃ n, n = xs.length := ⟨_, rfl⟩
  rw [← hNL] at hhv hcq hper hnl ⊢
  obtain ⟨NO, hNO⟩ : ∃ n, n = own.length := ⟨_, rfl⟩
  rw [← hNO] at ho hol ⊢
  obtain ⟨NF, hNF⟩ : ∃ n, n = fls.length := ⟨_, rfl⟩
  rw [← hNF] at hfl hfn ⊢
  have HWk := Lib.hid hwk
  have HHv := Lib.hid hhv
  have HCp := Lib.hid hcp
  have HCq := Lib.hid hcq
  have HCo := Lib.hid hco
  have HPer := Lib.hid hper
  have HMa := Lib.hid hma
  have HSm := Lib.hid hsm
  have HAo := Lib.hid hao
  have HSh := Lib.hid hshape
  have HKm := Lib.hid hkm
  have HKp := Lib.hid hkp
  have HNA := Lib.hid hNA
  have HNL := Lib.hid hNL
  have HNO := Lib.hid hNO
  have HNF := Lib.hid hNF
  have HOr := Lib.hid ho
  have HOo := Lib.hid oo
  have HFr := Lib.hid hfl
  have HFo := Lib.hid fo
  clear hwk hhv hcp hcq hco hper hma hsm hao hshape hkm hkp hNL hNO hNF ho oo hfl fo hNA hK h fit hp env pk hlm
  go_enter Tryz.func3, Tryz.ntmps3
  go_upto_region 1 with fail
  have HB := Lib.hid (boxed w (.cells #[.slice Ag NG cg, .slice At NT ct, .slice Ah NH ch, .slice Aa NA ca] 26))
  have HP := Lib.hid (Blk.new w 26 #[.slice Ag NG cg, .slice At NT ct, .slice Ah NH ch, .slice Aa NA ca])
  generalize w.alloc (.cells #[.slice Ag NG cg, .slice At NT ct, .slice Ah NH ch, .slice Aa NA ca] 26) = w1 at HB HP ⊢
  obtain ⟨P, hPe⟩ : ∃ P, P = w.heap.size := ⟨_, rfl⟩
  rw [← hPe] at HP ⊢
  clear hPe
  have p0 := HP.out.cell 0
  have p1 := HP.out.cell 1
  have p2 := HP.out.cell 2
  have p3 := HP.out.cell 3
  simp at p0 p1 p2 p3
  go_wp2_with fail
  go_at_call 5
  refine (HHv.out _ HB.out).mono ?_
  rintro r w2 ⟨⟨bb, rfl, hbb⟩, d2⟩
  have HB2 := Lib.hid (after HB.out d2)
  have HP2 := Lib.hid (HP.out.below d2 HP.out.lt)
  have HBb := Lib.hid hbb
  clear p0 p1 p2 p3 HP HB d2 HHv hbb
  cases bb with
  | true =>
    go_wp2_with (go_at_call 6; (with_reducible refine (HWk.out _ HB2.out).mono ?_); rintro r wz ⟨rfl, bz⟩)
    go_ret
    exact ⟨rfl, after HB2.out bz⟩
  | false =>
  have HSml := Lib.hid (HSm.out (by have := HBb.out rfl; rw [HNL.out] at this; exact this))
  clear HSm HBb
  by_cases h20 : 20 < NO
  · have q1 : (20 : Int) < (NO : Int) := by omega
    clear h20
    go_wp2_with (go_at_call 6; (with_reducible refine (HWk.out _ HB2.out).mono ?_); rintro r wz ⟨rfl, bz⟩)
    go_ret
    exact ⟨rfl, after HB2.out bz⟩
  have q1 : ¬ (20 : Int) < (NO : Int) := by omega
  by_cases h60 : 60 < NF
  · have q2 : (60 : Int) < (NF : Int) := by omega
    clear h60
    go_wp2_with (go_at_call 6; (with_reducible refine (HWk.out _ HB2.out).mono ?_); rintro r wz ⟨rfl, bz⟩)
    go_ret
    exact ⟨rfl, after HB2.out bz⟩
  have q2 : ¬ (60 : Int) < (NF : Int) := by omega
  clear h20 h60
  have p0 := HP2.out.cell 0
  have p1 := HP2.out.cell 1
  have p2 := HP2.out.cell 2
  have p3 := HP2.out.cell 3
  simp at p0 p1 p2 p3
  go_upto_region 4 with (first
    | (go_at_call 8; (with_reducible refine (HCp.out _ HB2.out).mono ?_); rintro r w3 ⟨⟨Y, rfl, hY⟩, d3⟩; (obtain ⟨Bg, Bt, Bh, Ba, mg, mt, mh, ma, rfl⟩ := HSh.out _ _ hY); have HY := Lib.hid hY; have HB3 := Lib.hid (after HB2.out d3); have HP3 := Lib.hid (HP2.out.below d3 HP2.out.lt); clear hY d3)
    | (go_at_call 9; (with_reducible refine (HCq.out _ HB3.out).mono ?_); rintro r w4 ⟨⟨A4, c4, rfl, h4⟩, d4⟩; have HQ := Lib.hid h4; have HB4 := Lib.hid (after HB3.out d4); have HP4 := Lib.hid (HP3.out.below d4 HP3.out.lt); have HY4 := Lib.hid (HY.out.below d4); (obtain ⟨B5, m5, w5, hr5, hw5, db5⟩ := append_row (P := Tryz.prog) w4 w4.heap.size 28 28 40 e0 (.agg #[.bool false, .int .u64 0, .int .u64 0]) 3 24 Tryz.underlying28 hen he0 he1 he2 rfl (by decide) (HOr.out.below HB4.out) (one_ad own) (by omega) (by decide) (Nat.le_refl _)); have R5 := Lib.hid hr5; have HB5 := Lib.hid (after HB4.out db5); have HP5 := Lib.hid (HP4.out.below db5 HP4.out.lt); have HY5 := Lib.hid (HY4.out.below db5); have HQ5 := Lib.hid (HQ.out.below db5); have HO5 := Lib.hid (RowR.of_own hw5); clear h4 d4 hr5 hw5 db5)
    | (at_builtin; refine wpList_append_ran rfl _ _ _ _ rfl rfl rfl R5.out ?_)
    | (go_at_call 7; (with_reducible refine (HCo.out _ HB5.out ⟨_, _, _, _⟩ _ _ HY5.out HQ5.out (by rw [← HNO.out]; exact HO5.out) HSml.out).mono ?_); rintro r w6 ⟨⟨rs, v', E, rfl, hE, hM, hN, hR⟩, d6⟩; (obtain ⟨A6, c6, rfl⟩ := hR.shape); have HE := Lib.hid hE; have HAg := Lib.hid (show AgreeR K p (xs.map (·.x)) own rs from ⟨hM, hN⟩); have HR := Lib.hid hR; have HB6 := Lib.hid (after HB5.out d6); have HP6 := Lib.hid (HP5.out.below d6 HP5.out.lt); clear hE hM hN hR d6))
  obtain ⟨NR, hNR⟩ : ∃ n, n = rs.length := ⟨_, rfl⟩
  rw [← hNR] at HR ⊢
  have HNR := Lib.hid hNR
  clear hNR p0 p1 p2 p3 q1 q2 HP2 HP3 HP4 HP5 HY HY4 HY5 HQ HQ5 HO5 R5 HB3 HB4 HB5 HB2
  have hnr : NR ≤ 4000000 := by
    by_cases hk : K = true
    · have h1 := made_len (HAg.out.1 hk)
      have h2 := List.length_filter_le (fun a => !(dstL p (xs.map (·.x)) own a).isEmpty) p.acls
      have := HNR.out
      have := HNA.out
      omega
    · have h1 := HAg.out.2 (by simpa using hk)
      have := HNR.out
      rw [h1] at this
      simp at this
      omega
  go_wp2_with fail
  go_loopw [11] (fun v11 wr => ∃ (i : Nat), i ≤ NF ∧ v11 = .int .i64 (i : Int) ∧ RowKit.Hid (Below w6.heap.size w6 wr)) (fun v11 _ => NF - (intOf v11).toNat)
  case atStart => exact ⟨0, Nat.zero_le _, rfl, Lib.hid (Below.refl _ _)⟩
  case round =>
    obtain ⟨i, hi, rfl, hbz⟩ := hrel
    obtain ⟨wo, rfl⟩ : ∃ wo : World, wo = wr := ⟨_, rfl⟩
    have HBo := Lib.hid (after HB6.out hbz.out)
    by_cases hlt : i < NF
    case neg =>
      obtain rfl : NF = i := by omega
      by_cases hk : K = true
      · have hE0 : E = 0 := by have := HE.out; rw [hk, decide_eq_true_eq] at this; exact this
        have q0 : ((E : Int) == 0) = true := by simp; omega
        clear hk hE0
        go_wp2_with (go_at_call 6; (with_reducible refine (HWk.out _ HBo.out).mono ?_); rintro r wz ⟨rfl, bz⟩)
        go_ret
        exact ⟨rfl, after HBo.out bz⟩
      · have hkf : K = false := by simpa using hk
        have hE0 : ¬ E = 0 := by have := HE.out; rw [hkf, decide_eq_false_iff_not] at this; exact this
        have q0 : ((E : Int) == 0) = false := by simp; omega
        have hr0 : NR = 0 := by rw [HNR.out, HAg.out.2 hkf]; rfl
        have q1 : ((NR : Int) == 0) = true := by simp; omega
        clear hk hkf hE0 hr0
        go_wp2_with (go_at_call 6; (with_reducible refine (HWk.out _ HBo.out).mono ?_); rintro r wz ⟨rfl, bz⟩)
        go_ret
        exact ⟨rfl, after HBo.out bz⟩
    have hil : i < fls.length := by have := HNF.out; omega
    have hfi : fls[i]? = some fls[i] := List.getElem?_eq_getElem hil
    have hfo := HFo.out _ (List.getElem_mem hil)
    obtain ⟨q, o, rfl, hc⟩ := HFr.out.cell HBo.out (by omega)
    generalize fls[i] = f at hfi hfo
    have d0 := hc _ _ (flat_at flList 9 fl_len hfi (r := 0) rfl)
    have d1 := hc _ _ (flat_at flList 9 fl_len hfi (r := 1) rfl)
    have d2 := hc _ _ (flat_at flList 9 fl_len hfi (r := 2) rfl)
    have d3 := hc _ _ (flat_at flList 9 fl_len hfi (r := 3) rfl)
    have d4 := hc _ _ (flat_at flList 9 fl_len hfi (r := 4) rfl)
    have d5 := hc _ _ (flat_at flList 9 fl_len hfi (r := 5) rfl)
    have d6 := hc _ _ (flat_at flList 9 fl_len hfi (r := 6) rfl)
    have d7 := hc _ _ (flat_at flList 9 fl_len hfi (r := 7) rfl)
    have d8 := hc _ _ (flat_at flList 9 fl_len hfi (r := 8) rfl)
    rw [Nat.add_zero] at d0
    rw [← Nat.add_assoc] at d1 d2 d3 d4 d5 d6 d7 d8
    obtain ⟨pr, ⟨sv, sh, sl⟩, ⟨dv, dh, dl⟩, fs, ft⟩ := f
    simp only at d0 d1 d2 d3 d4 d5 d6 d7 d8
    have HSok : RowKit.Hid (Ad.Ok ⟨sv, sh, sl⟩) := Lib.hid hfo.1
    clear hc hfi hfo hil
    go_upto_region 8 with fail
    have hbf := boxed wo (.cells #[.int .u8 (pr : Int), .bool sv, .int .u64 (sh : Int), .int .u64 (sl : Int), .bool dv, .int .u64 (dh : Int), .int .u64 (dl : Int), .int .u16 (fs : Int), .int .u16 (ft : Int)] 43)
    have HF := Lib.hid (Blk.new wo 43 #[.int .u8 (pr : Int), .bool sv, .int .u64 (sh : Int), .int .u64 (sl : Int), .bool dv, .int .u64 (dh : Int), .int .u64 (dl : Int), .int .u16 (fs : Int), .int .u16 (ft : Int)])
    have HBf := Lib.hid hbf
    generalize hwf : wo.alloc (.cells #[.int .u8 (pr : Int), .bool sv, .int .u64 (sh : Int), .int .u64 (sl : Int), .bool dv, .int .u64 (dh : Int), .int .u64 (dl : Int), .int .u16 (fs : Int), .int .u16 (ft : Int)] 43) = wf at HF HBf hbf ⊢
    have hFX : wo.heap.size ≤ wo.heap.size := Nat.le_refl _
    clear d0 d1 d2 d3 d4 d5 d6 d7 d8 hwf hbf
    obtain ⟨FX, hFe⟩ : ∃ X, X = wo.heap.size := ⟨_, rfl⟩
    rw [← hFe] at HF ⊢
    have HFX : RowKit.Hid (wo.heap.size ≤ FX) := Lib.hid (by omega)
    clear hFX hFe
    by_cases hno : NO = 0
    · have q1 : ¬ (0 : Int) < (NO : Int) := by omega
      have q2 : ((NO : Int) == 0) = true := by simp; omega
      have hgo : RowKit.Hid (Below w6.heap.size w6 wf) := Lib.hid (hbz.out.trans (HBf.out.mono hbz.out.size))
      clear hno
      by_cases hE0 : E = 0
      · have q0 : ((E : Int) != 0) = false := by simp; omega
        clear hE0
        go_wp2_with fail
        go_roundw
        case rel => exact ⟨i + 1, by omega, by go_num, hgo⟩
        case measure => simp [intOf]; omega
      · have q0 : ((E : Int) != 0) = true := by simp; omega
        clear hE0
        go_wp2_with fail
        go_roundw
        case rel => exact ⟨i + 1, by omega, by go_num, hgo⟩
        case measure => simp [intOf]; omega
    have q1 : (0 : Int) < (NO : Int) := by omega
    have q2 : ((NO : Int) == 0) = false := by simp; omega
    have hpos : 0 < NO := by omega
    have hir : ((i : Int)) % (NO : Int) = ((i % NO : Nat) : Int) := by rw [Int.natCast_emod]
    have hil : i % NO < NO := Nat.mod_lt _ hpos
    clear hno
    generalize i % NO = R at hir hil
    have hRl : R < own.length := by have := HNO.out; omega
    have hxR : own[R]? = some own[R] := List.getElem?_eq_getElem hRl
    have hmR : own[R] ∈ own := List.getElem_mem hRl
    obtain ⟨q', o', rfl, hc⟩ := HOr.out.cell (after HBo.out HBf.out) hpos
    obtain ⟨f0, f1, f2⟩ := adCells_at hxR
    have c0 := hc _ _ f0
    have c1 := hc _ _ f1
    have c2 := hc _ _ f2
    rw [← Nat.add_assoc] at c1 c2
    generalize own[R] = a at c0 c1 c2 hmR
    have hoa := HOo.out a hmR
    obtain ⟨av, ah, al⟩ := a
    simp only at c0 c1 c2
    have HmR := Lib.hid hmR
    have HOa := Lib.hid hoa
    clear hc f0 f1 f2 hxR hRl hmR hoa
    have y4 := HF.out.cell 4
    have y5 := HF.out.cell 5
    have y6 := HF.out.cell 6
    simp at y4 y5 y6
    have z4 := HF.out.frozen 4
    have z5 := HF.out.frozen 5
    have z6 := HF.out.frozen 6
    have hF2 := ((HF.out.set_ 4 (.bool av)).set_ 5 (.int .u64 (ah : Int))).set_ 6 (.int .u64 (al : Int))
    have hbg : Below wo.heap.size wo (((wf.setCell ⟨FX, 4, none⟩ (.bool av)).setCell ⟨FX, 5, none⟩ (.int .u64 (ah : Int))).setCell ⟨FX, 6, none⟩ (.int .u64 (al : Int))) := ((HBf.out.setCell (p := ⟨FX, 4, none⟩) HFX.out _).setCell (p := ⟨FX, 5, none⟩) HFX.out _).setCell (p := ⟨FX, 6, none⟩) HFX.out _
    have HFf : RowKit.Hid (Blk (((wf.setCell ⟨FX, 4, none⟩ (.bool av)).setCell ⟨FX, 5, none⟩ (.int .u64 (ah : Int))).setCell ⟨FX, 6, none⟩ (.int .u64 (al : Int))) FX 43 #[.int .u8 (pr : Int), .bool sv, .int .u64 (sh : Int), .int .u64 (sl : Int), .bool av, .int .u64 (ah : Int), .int .u64 (al : Int), .int .u16 (fs : Int), .int .u16 (ft : Int)]) := Lib.hid hF2
    have HBg := Lib.hid hbg
    clear hF2 hbg HF HBf
    go_upto_region 10 with fail
    generalize ((wf.setCell ⟨FX, 4, none⟩ (.bool av)).setCell ⟨FX, 5, none⟩ (.int .u64 (ah : Int))).setCell ⟨FX, 6, none⟩ (.int .u64 (al : Int)) = wg at HFf HBg ⊢
    clear y4 y5 y6 z4 z5 z6 c0 c1 c2 hir hil
    have HBog := Lib.hid (after HBo.out HBg.out)
    have hgo : RowKit.Hid (Below w6.heap.size w6 wg) := Lib.hid (hbz.out.trans (HBg.out.mono hbz.out.size))
    by_cases hk : K = true
    case neg =>
      have hkf : K = false := by simpa using hk
      have hE0 : ¬ E = 0 := by have := HE.out; rw [hkf, decide_eq_false_iff_not] at this; exact this
      have q0 : ((E : Int) != 0) = true := by simp; omega
      clear hk hkf hE0
      go_wp2_with fail
      go_roundw
      case rel => exact ⟨i + 1, by omega, by go_num, hgo⟩
      case measure => simp [intOf]; omega
    have hE0 : E = 0 := by have := HE.out; rw [hk, decide_eq_true_eq] at this; exact this
    have q0 : ((E : Int) != 0) = false := by simp; omega
    have HMd := Lib.hid (HAg.out.1 hk)
    have HMp := Lib.hid (HKm.out hk)
    have HKq := Lib.hid (HKp.out hk)
    clear hk hE0
    have hmay := fun u => rmayAddr_any ⟨av, ah, al⟩ HOa.out u
    generalize hmv : (⟨av, ah, al⟩ : Ad).may = MV at hmay
    unfold Ad.cells at hmay
    simp only at hmay
    have HMay := Lib.hid hmay
    have HMv := Lib.hid hmv
    clear hmay hmv
    have y4 := HFf.out.cell 4
    have y5 := HFf.out.cell 5
    have y6 := HFf.out.cell 6
    simp at y4 y5 y6
    cases MV with
    | false =>
      go_wp2_with (go_at_call 10; (with_reducible refine (HMay.out _).mono ?_); rintro r wh ⟨rfl, dh'⟩)
      go_roundw
      case rel => exact ⟨i + 1, by omega, by go_num, Lib.hid (hgo.out.trans (dh'.mono hgo.out.size))⟩
      case measure => simp [intOf]; omega
    | true =>
      go_upto_region 11 with (go_at_call 10; (with_reducible refine (HMay.out _).mono ?_); rintro r wh ⟨rfl, dh'⟩)
      have HFh := Lib.hid (HFf.out.below dh' HFf.out.lt)
      have HBh := Lib.hid (after HBog.out dh')
      have hgh := Lib.hid (hgo.out.trans (dh'.mono hgo.out.size))
      clear y4 y5 y6 dh' HFf HBog hgo HBg
      have y0 := HFh.out.cell 0
      have y1 := HFh.out.cell 1
      have y2 := HFh.out.cell 2
      have y3 := HFh.out.cell 3
      have y4 := HFh.out.cell 4
      have y5 := HFh.out.cell 5
      have y6 := HFh.out.cell 6
      have y7 := HFh.out.cell 7
      have y8 := HFh.out.cell 8
      simp at y0 y1 y2 y3 y4 y5 y6 y7 y8
      go_upto_region 12 with fail
      have hbk := boxed wh (.cells #[.int .u8 (pr : Int), .bool sv, .int .u64 (sh : Int), .int .u64 (sl : Int), .bool av, .int .u64 (ah : Int), .int .u64 (al : Int), .int .u16 (fs : Int), .int .u16 (ft : Int), .int .u8 0, .int .u8 0, .int .u8 0, .int .i64 0] 46)
      have HH := Lib.hid (Blk.new wh 46 #[.int .u8 (pr : Int), .bool sv, .int .u64 (sh : Int), .int .u64 (sl : Int), .bool av, .int .u64 (ah : Int), .int .u64 (al : Int), .int .u16 (fs : Int), .int .u16 (ft : Int), .int .u8 0, .int .u8 0, .int .u8 0, .int .i64 0])
      have HBk := Lib.hid (after HBh.out hbk)
      have hgk := Lib.hid (hgh.out.trans (hbk.mono hgh.out.size))
      clear y0 y1 y2 y3 y4 y5 y6 y7 y8 hbk HFh HBh hgh
      generalize wh.alloc (.cells #[.int .u8 (pr : Int), .bool sv, .int .u64 (sh : Int), .int .u64 (sl : Int), .bool av, .int .u64 (ah : Int), .int .u64 (al : Int), .int .u16 (fs : Int), .int .u16 (ft : Int), .int .u8 0, .int .u8 0, .int .u8 0, .int .i64 0] 46) = wk at HH HBk hgk ⊢
      generalize wh.heap.size = HX at HH ⊢
      have hmt := fun u (hu : Below wk.heap.size wk u) => HMa.out u (after HBk.out hu) _ rs ((show RlRd wk (.slice A6 NR c6) rs from HR.out.below hgk.out).below hu) (by rw [← HNR.out]; exact hnr) ⟨pr, ⟨sv, sh, sl⟩, ⟨av, ah, al⟩, fs, ft⟩ HSok.out HOa.out ⟨0, 0, 0, 0⟩
      have hpm := fun u (hu : Below wk.heap.size wk u) => HPer.out u (after HBk.out hu) ⟨pr, ⟨sv, sh, sl⟩, ⟨av, ah, al⟩, fs, ft⟩ HSok.out HOa.out ⟨0, 0, 0, 0⟩
      have hsame : rs.any (hitR ⟨pr, ⟨sv, sh, sl⟩, ⟨av, ah, al⟩, fs, ft⟩) = permitsP p (xs.map (·.x)) ⟨pr, ⟨sv, sh, sl⟩, ⟨av, ah, al⟩, fs, ft⟩ := by
        rw [HKq.out]
        exact made_hit (HAo.out HMp.out) HMd.out (fun a ha => (may_sels HMp.out ha).1) HSok.out HmR.out HOa.out HOo.out HMv.out
      rw [hsame] at hmt
      generalize permitsP p (xs.map (·.x)) ⟨pr, ⟨sv, sh, sl⟩, ⟨av, ah, al⟩, fs, ft⟩ = D at hmt hpm
      unfold headCells at hmt hpm
      simp only at hmt hpm
      have hmt2 : ∀ u, Below wk.heap.size wk u → Calls Tryz.prog 11 #[.slice A6 NR c6, .agg #[.int .u8 (pr : Int), .bool sv, .int .u64 (sh : Int), .int .u64 (sl : Int), .bool av, .int .u64 (ah : Int), .int .u64 (al : Int), .int .u16 (fs : Int), .int .u16 (ft : Int), .int .u8 0, .int .u8 0, .int .u8 0, .int .i64 0]] u fun r w' => (∃ z : Int, r = .returned (.int .i64 z) ∧ decide (0 ≤ z) = D) ∧ Below u.heap.size u w' := fun u hu => (hmt u hu).mono fun r w' ⟨⟨z, e1, e2, _⟩, e3⟩ => ⟨⟨z, e1, e2⟩, e3⟩
      have hpm2 : ∀ u, Below wk.heap.size wk u → Calls Tryz.prog 12 #[.agg #[.slice Ag NG cg, .slice At NT ct, .slice Ah NH ch, .slice Aa NA ca], .slice Ap NL cp, .agg #[.int .u8 (pr : Int), .bool sv, .int .u64 (sh : Int), .int .u64 (sl : Int), .bool av, .int .u64 (ah : Int), .int .u64 (al : Int), .int .u16 (fs : Int), .int .u16 (ft : Int), .int .u8 0, .int .u8 0, .int .u8 0, .int .i64 0]] u (Got (.bool D) u) := hpm
      have HMt := Lib.hid hmt2
      have HPm := Lib.hid hpm2
      have HPk := Lib.hid (HP6.out.below hgk.out HP6.out.lt)
      clear hmt hmt2 hpm hpm2 hsame
      have p0 := HPk.out.cell 0
      have p1 := HPk.out.cell 1
      have p2 := HPk.out.cell 2
      have p3 := HPk.out.cell 3
      have g0 := HH.out.cell 0
      have g1 := HH.out.cell 1
      have g2 := HH.out.cell 2
      have g3 := HH.out.cell 3
      have g4 := HH.out.cell 4
      have g5 := HH.out.cell 5
      have g6 := HH.out.cell 6
      have g7 := HH.out.cell 7
      have g8 := HH.out.cell 8
      have g9 := HH.out.cell 9
      have g10 := HH.out.cell 10
      have g11 := HH.out.cell 11
      have g12 := HH.out.cell 12
      simp at p0 p1 p2 p3 g0 g1 g2 g3 g4 g5 g6 g7 g8 g9 g10 g11 g12
      refine wp_region_held_drew (S := (fun w' => w'.cell? ⟨P, 0, none⟩ = some (.slice Ag NG cg) ∧ w'.cell? ⟨P, 1, none⟩ = some (.slice At NT ct) ∧ w'.cell? ⟨P, 2, none⟩ = some (.slice Ah NH ch) ∧ w'.cell? ⟨P, 3, none⟩ = some (.slice Aa NA ca) ∧ w'.cell? ⟨HX, 0, none⟩ = some (.int .u8 (pr : Int)) ∧ w'.cell? ⟨HX, 1, none⟩ = some (.bool sv) ∧ w'.cell? ⟨HX, 2, none⟩ = some (.int .u64 (sh : Int)) ∧ w'.cell? ⟨HX, 3, none⟩ = some (.int .u64 (sl : Int)) ∧ w'.cell? ⟨HX, 4, none⟩ = some (.bool av) ∧ w'.cell? ⟨HX, 5, none⟩ = some (.int .u64 (ah : Int)) ∧ w'.cell? ⟨HX, 6, none⟩ = some (.int .u64 (al : Int)) ∧ w'.cell? ⟨HX, 7, none⟩ = some (.int .u16 (fs : Int)) ∧ w'.cell? ⟨HX, 8, none⟩ = some (.int .u16 (ft : Int)) ∧ w'.cell? ⟨HX, 9, none⟩ = some (.int .u8 0) ∧ w'.cell? ⟨HX, 10, none⟩ = some (.int .u8 0) ∧ w'.cell? ⟨HX, 11, none⟩ = some (.int .u8 0) ∧ w'.cell? ⟨HX, 12, none⟩ = some (.int .i64 0))) (by kernel_rfl) (⟨p0, p1, p2, p3, g0, g1, g2, g3, g4, g5, g6, g7, g8, g9, g10, g11, g12⟩) (fun hHeld => ?_)
      refine' wpAnyH_take (i := 0) (v := _) rfl (by kernel_rfl) (by kernel_rfl) (by kernel_rfl) (fun _ _ _ h => h) (Or.inl ⟨by rfl, ?ly1⟩) (by assumption) ?lrest1
      case ly1 =>
        intro w hSw
        try dsimp only at hSw
        go_simp
        try with_reducible rfl
      try simp only [Act.put, List.setIfInBounds_toArray, List.set_cons_zero, List.set_cons_succ, List.getElem_toArray, List.getElem_cons_zero, List.getElem_cons_succ]
      refine' wpAnyH_take (i := 1) (v := _) rfl (by kernel_rfl) (by kernel_rfl) (by kernel_rfl) (fun _ _ _ h => h) (Or.inl ⟨by rfl, ?ly2⟩) (by assumption) ?lrest2
      case ly2 =>
        intro w hSw
        try dsimp only at hSw
        go_simp
        try with_reducible rfl
      try simp only [Act.put, List.setIfInBounds_toArray, List.set_cons_zero, List.set_cons_succ, List.getElem_toArray, List.getElem_cons_zero, List.getElem_cons_succ]
      refine' wpAnyH_take (i := 4) (v := _) rfl (by kernel_rfl) (by kernel_rfl) (by kernel_rfl) (fun _ _ _ h => h) (Or.inl ⟨by rfl, ?ly3⟩) (by assumption) ?lrest3
      case ly3 =>
        intro w hSw
        try dsimp only at hSw
        go_simp
        try with_reducible rfl
      try simp only [Act.put, List.setIfInBounds_toArray, List.set_cons_zero, List.set_cons_succ, List.getElem_toArray, List.getElem_cons_zero, List.getElem_cons_succ]
      refine' wpAnyH_take (i := 5) (v := _) rfl (by kernel_rfl) (by kernel_rfl) (by kernel_rfl) (fun _ _ _ h => h) (Or.inl ⟨by rfl, ?ly4⟩) (by assumption) ?lrest4
      case ly4 =>
        intro w hSw
        try dsimp only at hSw
        go_simp
        try with_reducible rfl
      try simp only [Act.put, List.setIfInBounds_toArray, List.set_cons_zero, List.set_cons_succ, List.getElem_toArray, List.getElem_cons_zero, List.getElem_cons_succ]
      refine' wpAnyH_take (i := 6) (v := _) rfl (by kernel_rfl) (by kernel_rfl) (by kernel_rfl) (fun _ _ _ h => h) (Or.inl ⟨by rfl, ?ly5⟩) (by assumption) ?lrest5
      case ly5 =>
        intro w hSw
        try dsimp only at hSw
        go_simp
        try with_reducible rfl
      try simp only [Act.put, List.setIfInBounds_toArray, List.set_cons_zero, List.set_cons_succ, List.getElem_toArray, List.getElem_cons_zero, List.getElem_cons_succ]
      refine wpAnyH_ready (rs := [2]) (by kernel_rfl) (by simp) ?_
      refine AllReadyH.cons rfl (fun K hK => ?_) AllReadyH.nil
      go_simp
      refine (HMt.out _ (Below.drew_ (Below.refl _ _))).mono ?_
      rintro r wm ⟨⟨z, rfl, hz⟩, dm⟩
      have em := Below.of_drew dm
      clear dm
      refine hK.out _ _ (⟨cellB p0 em, cellB p1 em, cellB p2 em, cellB p3 em, cellB g0 em, cellB g1 em, cellB g2 em, cellB g3 em, cellB g4 em, cellB g5 em, cellB g6 em, cellB g7 em, cellB g8 em, cellB g9 em, cellB g10 em, cellB g11 em, cellB g12 em⟩) (fun hHeld => ?_)
      clear hK K
      try simp only [Act.put, List.setIfInBounds_toArray, List.set_cons_zero, List.set_cons_succ, List.getElem_toArray, List.getElem_cons_zero, List.getElem_cons_succ]
      refine' wpAnyH_take (i := 3) (v := _) rfl (by kernel_rfl) (by kernel_rfl) (by kernel_rfl) (fun _ _ _ h => h) (Or.inl ⟨by rfl, ?ly7⟩) (by assumption) ?lrest7
      case ly7 =>
        intro w hSw
        try dsimp only at hSw
        go_simp
        try with_reducible rfl
      try simp only [Act.put, List.setIfInBounds_toArray, List.set_cons_zero, List.set_cons_succ, List.getElem_toArray, List.getElem_cons_zero, List.getElem_cons_succ]
      refine wpAnyH_ready (rs := [7]) (by kernel_rfl) (by simp) ?_
      refine AllReadyH.cons rfl (fun K hK => ?_) AllReadyH.nil
      go_simp
      refine (HPm.out _ em).mono ?_
      rintro r wn ⟨rfl, dn⟩
      have en := after em dn
      clear dn
      refine hK.out _ _ (⟨cellB p0 en, cellB p1 en, cellB p2 en, cellB p3 en, cellB g0 en, cellB g1 en, cellB g2 en, cellB g3 en, cellB g4 en, cellB g5 en, cellB g6 en, cellB g7 en, cellB g8 en, cellB g9 en, cellB g10 en, cellB g11 en, cellB g12 en⟩) (fun hHeld => ?_)
      clear hK K
      try simp only [Act.put, List.setIfInBounds_toArray, List.set_cons_zero, List.set_cons_succ, List.getElem_toArray, List.getElem_cons_zero, List.getElem_cons_succ]
      refine' wpAnyH_take (i := 8) (v := _) rfl (by kernel_rfl) (by kernel_rfl) (by kernel_rfl) (fun _ _ _ h => h) (Or.inl ⟨by rfl, ?ly9⟩) (by assumption) ?lrest9
      case ly9 =>
        intro w hSw
        try dsimp only at hSw
        go_simp
        try with_reducible rfl
      try simp only [Act.put, List.setIfInBounds_toArray, List.set_cons_zero, List.set_cons_succ, List.getElem_toArray, List.getElem_cons_zero, List.getElem_cons_succ]
      refine wpAnyH_done (by kernel_rfl) ?_ _
      have hne : (decide (0 ≤ z) != D) = false := by rw [hz]; simp
      go_wp2_with fail
      go_roundw
      case rel => exact ⟨i + 1, by omega, by go_num, Lib.hid (hgk.out.trans (en.mono hgk.out.size))⟩
      case measure => simp [intOf]; omega
end Go.Proofs.YthglckoikjfjkaaGreatDoor
