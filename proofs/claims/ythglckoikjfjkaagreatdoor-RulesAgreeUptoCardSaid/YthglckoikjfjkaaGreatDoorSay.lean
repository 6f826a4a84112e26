/- Joined out of: CmA. -/
import Derived.Test.YthglckoikjfjkaaGreatDoorSax
set_option linter.unusedVariables false
set_option linter.unusedSimpArgs false

/- Rules: what is made ready of a policy (Compile): the walk. -/
namespace Go.Proofs.YthglckoikjfjkaaGreatDoor
open Go.RowKit
attribute [local go_sem ↓] Go.wp_at_zero Go.wp_at_succ

/- The plain law: one rule. -/
theorem merged_len {α : Type} (t : α → α → Bool) (j : α → α → α) (S : List α) : (mergeL t j S).length ≤ S.length := by
  rw [← mergeO_end]
  exact mergeO_len t j S S.length
theorem rule_made {p : Po} {l : List Pe} {own : List Ad} {a : Ac} {S1 S2 : List Sp} {S3 : List (Nat × Nat)} (o1 : ∀ x ∈ a.src.flatMap (spansL p l), x.Ok) (oo : ∀ b ∈ own, b.Ok)
    (p1 : S1.Perm ((a.src.flatMap (spansL p l)).filter maySp)) (q1 : S1.Pairwise fun x y => lessA y.1 x.1 = false)
    (p2 : S2.Perm (((dstL p l own a).map twice_).filter maySp)) (q2 : S2.Pairwise fun x y => lessA y.1 x.1 = false)
    (p3 : S3.Perm a.ports) (q3 : S3.Pairwise fun x y => x.1 ≤ y.1) :
    RuleFor p l own a ⟨protosR a.protos, mergeL touchS joinS S1, mergeL touchS joinS S2, mergeL touchO joinO S3⟩ := by
  have o2 : ∀ x ∈ (dstL p l own a).map twice_, x.Ok := by
    intro x hx
    obtain ⟨b, hb, rfl⟩ := List.mem_map.1 hx
    have := oo b (List.mem_filter.1 hb).1
    exact ⟨this, this⟩
  refine ⟨rfl, fun f => ?_, ?_, fun x hx => (norm_in hx o1 p1 q1).1, fun x hx => (norm_in hx o2 p2 q2).1⟩
  · rw [(merge_ports f q3).1]
    exact any_mem (fun x => p3.mem_iff) _
  · rw [(merge_ports ⟨0, ⟨false, 0, 0⟩, ⟨false, 0, 0⟩, 0, 0⟩ q3).2]
    constructor
    · intro h; rw [h] at p3; exact List.Perm.nil_eq p3 |>.symm
    · intro h; rw [h] at p3; exact p3.eq_nil
theorem rule_fit {p : Po} {l : List Pe} {own : List Ad} {a : Ac} {S1 S2 : List Sp} {S3 : List (Nat × Nat)} (o1 : ∀ x ∈ a.src.flatMap (spansL p l), x.Ok) (oo : ∀ b ∈ own, b.Ok) (n1 : (a.src.flatMap (spansL p l)).length ≤ 2000000) (n2 : own.length ≤ 2000000) (n3 : a.ports.length ≤ 2000000) (n0 : a.protos.length ≤ 2000000)
    (p1 : S1.Perm ((a.src.flatMap (spansL p l)).filter maySp)) (q1 : S1.Pairwise fun x y => lessA y.1 x.1 = false)
    (p2 : S2.Perm (((dstL p l own a).map twice_).filter maySp)) (q2 : S2.Pairwise fun x y => lessA y.1 x.1 = false)
    (p3 : S3.Perm a.ports) :
    RlFit ⟨protosR a.protos, mergeL touchS joinS S1, mergeL touchS joinS S2, mergeL touchO joinO S3⟩ := by
  have o2 : ∀ x ∈ (dstL p l own a).map twice_, x.Ok := by
    intro x hx
    obtain ⟨b, hb, rfl⟩ := List.mem_map.1 hx
    have := oo b (List.mem_filter.1 hb).1
    exact ⟨this, this⟩
  have z0 : Ad.Ok ⟨false, 0, 0⟩ := ⟨by decide, by decide⟩
  refine ⟨?_, ?_, ?_, ?_, (norm_in z0 o1 p1 q1).2, (norm_in z0 o2 p2 q2).2⟩
  · show (protosR a.protos).length ≤ 4000000
    unfold protosR
    split
    · rw [List.length_append]; simp; omega
    · omega
  · have h1 := merged_len touchS joinS S1
    have h2 := p1.length_eq
    have h3 := List.length_filter_le maySp (a.src.flatMap (spansL p l))
    show (mergeL touchS joinS S1).length ≤ 4000000
    omega
  · have h1 := merged_len touchS joinS S2
    have h2 := p2.length_eq
    have h3 := List.length_filter_le maySp ((dstL p l own a).map twice_)
    have h4 : (dstL p l own a).length ≤ own.length := List.length_filter_le _ _
    rw [List.length_map] at h3
    show (mergeL touchS joinS S2).length ≤ 4000000
    omega
  · have h1 := merged_len touchO joinO S3
    have h2 := p3.length_eq
    show (mergeL touchO joinO S3).length ≤ 4000000
    omega
def dstO (p : Po) (l : List Pe) (own : List Ad) (a : Ac) (j : Nat) : List Sp := ((own.take j).filter fun x => someP p l a.dst x).map twice_
theorem dstO_end (p : Po) (l : List Pe) (own : List Ad) (a : Ac) : dstO p l own a own.length = (dstL p l own a).map twice_ := by
  unfold dstO dstL
  rw [List.take_of_length_le (Nat.le_refl _)]
theorem dstO_yes {p : Po} {l : List Pe} {own : List Ad} {a : Ac} {j : Nat} {x : Ad} (hx : own[j]? = some x) (h : someP p l a.dst x = true) : dstO p l own a (j + 1) = dstO p l own a j ++ [(x, x)] := by
  have hk := (List.getElem?_eq_some_iff.1 hx).1
  unfold dstO
  rw [List.take_succ_eq_append_getElem hk, List.filter_append, List.map_append, (List.getElem?_eq_some_iff.1 hx).2]
  simp [h, twice_]
theorem dstO_no {p : Po} {l : List Pe} {own : List Ad} {a : Ac} {j : Nat} {x : Ad} (hx : own[j]? = some x) (h : someP p l a.dst x = false) : dstO p l own a (j + 1) = dstO p l own a j := by
  have hk := (List.getElem?_eq_some_iff.1 hx).1
  unfold dstO
  rw [List.take_succ_eq_append_getElem hk, List.filter_append, List.map_append, (List.getElem?_eq_some_iff.1 hx).2]
  simp [h]
theorem dstO_len (p : Po) (l : List Pe) (own : List Ad) (a : Ac) (j : Nat) : (dstO p l own a j).length ≤ own.length := by
  unfold dstO
  rw [List.length_map]
  exact Nat.le_trans (List.length_filter_le _ _) (by rw [List.length_take]; omega)

/- The rules as they are laid, one behind the other. -/
structure RlOwn (w : World) (base : Nat) (x : RlV) : Prop where
  p : w.ownsRow base 5 1 x.p x.r.protos.length (protoCells x.r.protos)
  s : w.ownsRow base 73 6 x.s x.r.src.length (spCells x.r.src)
  d : w.ownsRow base 73 6 x.d x.r.dst.length (spCells x.r.dst)
  o : w.ownsRow base 68 2 x.o x.r.ports.length (portCells x.r.ports)
theorem RlOwn.below {w w' : World} {base : Nat} {x : RlV} (h : RlOwn w base x) (hb : Below w.heap.size w w') : RlOwn w' base x := ⟨own_below h.p hb, own_below h.s hb, own_below h.d hb, own_below h.o hb⟩
theorem RlOwn.keep {S : Nat → Prop} {w w' : World} {T : List TypeId} {base : Nat} {x : RlV} (h : RlOwn w base x) (hk : Keeps S w w') (ho : Off S w T) (h1 : 5 ∉ T) (h2 : 73 ∉ T) (h3 : 68 ∉ T) : RlOwn w' base x :=
  ⟨own_off h.p hk ho h1, own_off h.s hk ho h2, own_off h.d hk ho h2, own_off h.o hk ho h3⟩
theorem RlOwn.rd {w : World} {base : Nat} {x : RlV} (h : RlOwn w base x) : RlMem w x := ⟨RowR.of_own h.p, RowR.of_own h.s, RowR.of_own h.d, RowR.of_own h.o⟩
def RlRow (w : World) (base : Nat) (v : Value) (rs : List Rl) : Prop := ∃ xs : List RlV, xs.map (·.r) = rs ∧ w.ownsRow base 79 4 v rs.length (ruCells xs) ∧ (∀ x ∈ xs, RlOwn w base x) ∧ ∀ r ∈ rs, RlFit r
theorem RlRow.nil (w : World) (base : Nat) : RlRow w base (.slice none 0 0) [] := ⟨[], rfl, World.ownsRow_nil _ _ _ _, fun x hx => (by cases hx), fun x hx => (by cases hx)⟩
theorem RlRow.below {w w' : World} {base : Nat} {v : Value} {rs : List Rl} (h : RlRow w base v rs) (hb : Below w.heap.size w w') : RlRow w' base v rs := by
  obtain ⟨xs, h1, h2, h3, h4⟩ := h
  exact ⟨xs, h1, own_below h2 hb, fun x hx => (h3 x hx).below hb, h4⟩
theorem RlRow.rd {w : World} {base : Nat} {v : Value} {rs : List Rl} (h : RlRow w base v rs) : RlRd w v rs := by
  obtain ⟨xs, h1, h2, h3, h4⟩ := h
  refine ⟨xs, h1, ?_, fun x hx => (h3 x hx).rd, h4⟩
  rw [← h1, List.length_map] at h2
  exact RowR.of_own h2
theorem ruCells_snoc (l : List RlV) (x : RlV) : ruCells (l ++ [x]) = ruCells l ++ [x.p, x.s, x.d, x.o] := by simp [ruCells, ruQuad]
theorem info_ru : (Tryz.prog.info? 79).map (fun i => (i.zero, i.size, i.bytes)) = some (some (.agg #[.slice none 0 0, .slice none 0 0, .slice none 0 0, .slice none 0 0]), 4, 96) := by kernel_rfl
theorem take_next {α : Type} {l : List α} {k : Nat} {x : α} (h : l[k]? = some x) : l.take (k + 1) = l.take k ++ [x] := by
  have hk := (List.getElem?_eq_some_iff.1 h).1
  rw [List.take_succ_eq_append_getElem hk, (List.getElem?_eq_some_iff.1 h).2]

set_option maxHeartbeats 32000000 in
set_option maxRecDepth 100000 in
theorem compile_any {w : World} (env : Env w) {V : PoV} {p : Po} (h : PoRd w V p) (fit : PoFit p) {pv : Value} {l : List Pe} (hp : PeRd w pv l) (hpl : l.length ≤ 4000000) (pk : ∀ x ∈ l, ∀ b ∈ x.addrs, b.Ok) {ov : Value} {own : List Ad} (ho : RowR w ov own.length 3 (adCells own)) (hol : own.length ≤ 2000000) (oo : ∀ b ∈ own, b.Ok) (small : ∀ a ∈ p.acls, (a.src.flatMap (spansL p l)).length ≤ 2000000) :
    Calls Tryz.prog 7 #[.agg #[V.g, V.t, V.h, V.a], pv, ov] w fun r w' => (∃ (rs : List Rl) (v' : Value) (E : Nat), r = .returned (.tuple #[v', .int .i64 (E : Int)]) ∧ decide (E = 0) = okP p ∧ (okP p = true → Made p l own p.acls rs) ∧ (okP p = false → rs = []) ∧ RlRd w' v' rs) ∧ Below w.heap.size w w' := by
  obtain ⟨T, E, ht, hE, hE0⟩ := rtextR_ok p
  have hmay := fun u (hu : Below w.heap.size w u) => pmay_any (env.below hu) (h.below hu) fit ht
  have hac := h.a
  have hso := fun u (hu : Below w.heap.size w u) (a : Ac) (ha : a ∈ p.acls) (dv : Value) (hd : RowR u dv a.dst.length 6 (selCells a.dst)) (b : Ad) (ob : b.Ok) => some_any (env.below hu) (h.below hu) fit (hp.below hu) hpl hd (by have := (fit.a a ha).dl; omega) (fun s hs => ((fit.a a ha).dst s hs).ok) b ob
  have hsn := fun (hm : mayP p = true) u (hu : Below w.heap.size w u) (a : Ac) (ha : a ∈ p.acls) (sv : Value) (hs : RowR u sv a.src.length 6 (selCells a.src)) => rspans_any (env.below hu) (h.below hu) fit (hp.below hu) hpl (all_ok (fun x hx => (fit.h x hx).2) hm pk) hs (by have := (fit.a a ha).sl; omega) (may_sels hm ha).1 (small a ha)
  have hok1 : mayP p = true → ∀ a ∈ p.acls, ∀ x ∈ a.src.flatMap (spansL p l), x.Ok := fun hm a ha x hx => by
    obtain ⟨s, hs, hx⟩ := List.mem_flatMap.1 hx
    exact spans_ok (all_ok (fun x hx => (fit.h x hx).2) hm pk) ((may_sels hm ha).1 s hs) x hx
  have hnm := fun u (hu : Below w.heap.size w u) v (L : List Sp) (hr : RowR u v L.length 6 (spCells L)) (hl : L.length ≤ 2000000) (ok : ∀ s ∈ L, s.Ok) => norm_any (env.below hu) L hr hl ok
  have hfit := fit.a
  have hmm : okP p = true → mayP p = true := okP_may
  obtain ⟨Ag, At, Ah, Aa, cg, ct, ch, ca, rfl⟩ := copied h
  obtain ⟨xa, hxa, har, ham⟩ := hac
  obtain ⟨Ap, cp, rfl⟩ := hp.shape
  obtain ⟨Ao, co, rfl⟩ := ho.shape
  obtain ⟨i0, hi, hz0, hz1, hz2⟩ := info_parts info_sp
  obtain ⟨r0, hr, hr0, hr1, hr2⟩ := info_parts info_ru
  simp only at hmay har hso hsn ham
  generalize p.groups.length = NG at *
  generalize p.tags.length = NT at *
  generalize p.hosts.length = NH at *
  obtain ⟨NA, hNA⟩ : ∃ n, n = p.acls.length := ⟨_, rfl⟩
  obtain ⟨NO, hNO⟩ : ∃ n, n = own.length := ⟨_, rfl⟩
  have hal := fit.al
  rw [← hNA] at hal har hmay hso hsn ⊢
  rw [← hNO] at hol ho ⊢
  have hlx := congrArg List.length hxa
  rw [List.length_map, ← hNA] at hlx
  have htk0 : p.acls.take NA = p.acls := List.take_of_length_le (by omega)
  generalize l.length = NL at *
  obtain ⟨K, hK⟩ : ∃ K, K = okP p := ⟨_, rfl⟩
  rw [← hK] at hE hE0 hmm ⊢
  have HMay := Lib.hid hmay
  have HSo := Lib.hid hso
  have HSn := Lib.hid hsn
  have HOk1 := Lib.hid hok1
  have HNm := Lib.hid hnm
  have HFit := Lib.hid hfit
  have HSmall := Lib.hid small
  have HXa := Lib.hid hxa
  have HAr := Lib.hid har
  have HAm := Lib.hid ham
  have HOo := Lib.hid oo
  have HOr := Lib.hid ho
  have HNA := Lib.hid hNA
  have HNO := Lib.hid hNO
  have HTk := Lib.hid htk0
  have HLx := Lib.hid hlx
  have HE := Lib.hid hE
  clear hmay hso hsn hok1 hnm hfit small hxa har ham oo ho hNA hNO htk0 hlx h fit hp hpl pk env ht hK hE
  go_enter Tryz.func7, Tryz.ntmps7
  go_upto_region 1 with fail
  have HP := Lib.hid (Blk.new w 26 #[.slice Ag NG cg, .slice At NT ct, .slice Ah NH ch, .slice Aa NA ca])
  have HB := Lib.hid (boxed w (.cells #[.slice Ag NG cg, .slice At NT ct, .slice Ah NH ch, .slice Aa NA ca] 26))
  generalize w.alloc (.cells #[.slice Ag NG cg, .slice At NT ct, .slice Ah NH ch, .slice Aa NA ca] 26) = w1 at HP HB ⊢
  obtain ⟨P, hPe⟩ : ∃ P, P = w.heap.size := ⟨_, rfl⟩
  rw [← hPe] at HP ⊢
  clear hPe
  have p0 := HP.out.cell 0
  have p1 := HP.out.cell 1
  have p2 := HP.out.cell 2
  have p3 := HP.out.cell 3
  simp at p0 p1 p2 p3
  by_cases hKt : K = true
  case neg =>
    have hKf : K = false := by simpa using hKt
    have hE1 : ¬ E = 0 := by have := HE.out; rw [hKf, decide_eq_false_iff_not] at this; exact this
    have HKf := Lib.hid hKf
    have e0 : ((E : Int) != 0) = true := by simp; omega
    clear hE1 hE0 hmm hKt hKf
    go_wp2_with (go_at_call 14; (with_reducible refine (HMay.out _ HB.out).mono ?_); rintro r w2 ⟨rfl, d2⟩)
    go_ret2
    exact ⟨⟨[], _, 2, rfl, by rw [HKf.out]; rfl, fun h => (by rw [HKf.out] at h; cases h), fun _ => rfl, [], rfl, RowR.empty _ _, fun x hx => (by cases hx), fun x hx => (by cases hx)⟩, after HB.out d2⟩
  case pos =>
    obtain rfl := hE0 hKt
    have e0 : (((0 : Nat) : Int) != 0) = false := rfl
    have HMm := Lib.hid (hmm hKt)
    have HKt := Lib.hid hKt
    clear hE0 hmm hKt
    go_upto_region 3 with (go_at_call 14; (with_reducible refine (HMay.out _ HB.out).mono ?_); rintro r w2 ⟨rfl, d2⟩)
    have HP2 := Lib.hid (HP.out.below d2 HP.out.lt)
    have HB2 := Lib.hid (after HB.out d2)
    have HR2 : RowKit.Hid (RlRow w2 w.heap.size (.slice none 0 0) []) := Lib.hid (RlRow.nil _ _)
    have HM2 : RowKit.Hid (Made p l own (p.acls.take 0) []) := Lib.hid Made.nil
    clear p0 p1 p2 p3 d2 HP HB e0
    have p3 := HP2.out.cell 3
    simp at p3
    go_wp2_with fail
    clear p3
    go_loopw [8, 20] (fun v8 v20 wr => ∃ (k : Nat) (A : Option Addr) (c : Nat) (rs : List Rl), k ≤ NA ∧ v20 = .int .i64 (k : Int) ∧ v8 = .slice A rs.length c ∧ RowKit.Hid (RlRow wr w.heap.size (.slice A rs.length c) rs) ∧ RowKit.Hid (Made p l own (p.acls.take k) rs) ∧ RowKit.Hid (rs.length ≤ k) ∧ RowKit.Hid (Below w.heap.size w wr) ∧ RowKit.Hid (Blk wr P 26 #[.slice Ag NG cg, .slice At NT ct, .slice Ah NH ch, .slice Aa NA ca])) (fun _ v20 _ => NA - (intOf v20).toNat)
    case atStart => exact ⟨0, none, 0, [], Nat.zero_le _, rfl, rfl, HR2, HM2, Lib.hid (Nat.le_refl _), HB2, HP2⟩
    case round =>
      clear HR2 HM2 HB2 HP2
      obtain ⟨k, A, c, rs, hk, rfl, rfl, HR, HMd, HRl, HB, HP⟩ := hrel
      obtain ⟨wo, rfl⟩ : ∃ wo : World, wo = wr := ⟨_, rfl⟩
      by_cases hlt : k < NA
      case neg =>
        obtain rfl : NA = k := by omega
        have hmd := HMd.out
        rw [HTk.out] at hmd
        have HMz := Lib.hid hmd
        clear hmd HMd
        generalize hN : rs.length = N at HR ⊢
        have HN := Lib.hid hN
        clear hN
        go_wp2_with fail
        go_ret2
        refine ⟨⟨rs, _, 0, rfl, by rw [HKt.out]; rfl, fun _ => HMz.out, (fun h => by rw [HKt.out] at h; cases h), ?_⟩, HB.out⟩
        exact RlRow.rd HR.out
      have hkl : k < xa.length := by have := HLx.out; omega
      obtain ⟨X, hX⟩ : ∃ X, xa[k]? = some X := ⟨_, List.getElem?_eq_getElem hkl⟩
      have hXl : p.acls[k]? = some X.a := by rw [← HXa.out, List.getElem?_map, hX]; rfl
      have hXm := List.mem_of_getElem? hXl
      have htk := take_next hXl
      obtain ⟨q, o, rfl, hc⟩ := HAr.out.cell HB.out (by omega)
      obtain ⟨e0, e1, e2, e3⟩ := acCells_at xa k X hX
      have d0 := hc _ _ e0
      have d1 := hc _ _ e1
      have d2 := hc _ _ e2
      have d3 := hc _ _ e3
      rw [← Nat.add_assoc] at d1 d2 d3
      have rX := HAm.out X (List.mem_of_getElem? hX)
      have hXf := HFit.out X.a hXm
      obtain ⟨A1, c1, g1⟩ := rX.p.shape
      obtain ⟨A2, c2, g2⟩ := rX.s.shape
      obtain ⟨A3, c3, g3⟩ := rX.d.shape
      obtain ⟨A4, c4, g4⟩ := rX.o.shape
      have rxp := rX.p
      have rxs := rX.s
      have rxd := rX.d
      have rxo := rX.o
      rw [g1] at d0 rxp
      rw [g2] at d1 rxs
      rw [g3] at d2 rxd
      rw [g4] at d3 rxo
      generalize X.a = a at hXl hXm htk hXf d0 d1 d2 d3 rxp rxs rxd rxo
      have hrl := HRl.out
      have hpr := fun u (hu : Below w.heap.size w u) => rprotos_any a.protos (rxp.below hu) (by have := hXf.pl; omega)
      have hpo := fun u (hu : Below w.heap.size w u) => rports_any a.ports (rxo.below hu) (by have := hXf.ol; omega) hXf.ob
      have hsp := fun u (hu : Below w.heap.size w u) => HSn.out HMm.out u hu a hXm _ (rxs.below hu)
      have hsm := fun u (hu : Below w.heap.size w u) b ob => HSo.out u hu a hXm _ (rxd.below hu) b ob
      generalize a.protos.length = n1 at hpr d0
      generalize a.src.length = n2 at hsp d1
      generalize a.dst.length = n3 at hsm d2
      generalize a.ports.length = n4 at hpo d3
      have HPr := Lib.hid hpr
      have HPo := Lib.hid hpo
      have HSp := Lib.hid hsp
      have HSm := Lib.hid hsm
      have HTn := Lib.hid htk
      have HXm := Lib.hid hXm
      have HXf := Lib.hid hXf
      clear hpr hpo hsp hsm htk hXm hXf rxp rxs rxd rxo rX g1 g2 g3 g4 e0 e1 e2 e3 hc hX hXl hkl
      go_upto_region 7 with fail
      have M1 := Lib.hid (Blk.new wo 61 #[.slice A1 n1 c1, .slice A2 n2 c2, .slice A3 n3 c3, .slice A4 n4 c4])
      have q1 := boxed wo (.cells #[.slice A1 n1 c1, .slice A2 n2 c2, .slice A3 n3 c3, .slice A4 n4 c4] 61)
      have HB6 := Lib.hid (after HB.out q1)
      have HP6 := Lib.hid (HP.out.below q1 HP.out.lt)
      have HR6 := Lib.hid (HR.out.below q1)
      generalize wo.alloc (.cells #[.slice A1 n1 c1, .slice A2 n2 c2, .slice A3 n3 c3, .slice A4 n4 c4] 61) = w6 at M1 HB6 HP6 HR6 q1 ⊢
      generalize wo.heap.size = M at M1 ⊢
      clear q1 HB HP HR d0 d1 d2 d3
      generalize hRN : rs.length = RN at HR6 hrl ⊢
      have HRN := Lib.hid hRN
      clear hRN
      go_wp2_with fail
      go_loopw [11, 26] (fun v11 v26 wr => ∃ (j : Nat) (D : Option Addr) (f : Nat), j ≤ NO ∧ v26 = .int .i64 (j : Int) ∧ v11 = .slice D (dstO p l own a j).length f ∧ RowKit.Hid (wr.ownsRow w6.heap.size 73 6 (.slice D (dstO p l own a j).length f) (dstO p l own a j).length (spCells (dstO p l own a j))) ∧ RowKit.Hid (Below w6.heap.size w6 wr)) (fun _ v26 _ => NO - (intOf v26).toNat)
      case atStart => exact ⟨0, none, 0, Nat.zero_le _, rfl, rfl, Lib.hid (World.ownsRow_nil _ _ _ _), Lib.hid (Below.refl _ _)⟩
      case round =>
        obtain ⟨j, D, f, hj, rfl, rfl, how, hbw⟩ := hrel
        obtain ⟨wo2, rfl⟩ : ∃ wo2 : World, wo2 = wr := ⟨_, rfl⟩
        have HBr := Lib.hid (after HB6.out hbw.out)
        have HPr2 := Lib.hid (HP6.out.below hbw.out HP6.out.lt)
        have HMr := Lib.hid (M1.out.below hbw.out M1.out.lt)
        by_cases hlt2 : j < NO
        case pos =>
          have hjl : j < own.length := by have := HNO.out; omega
          have hxj : own[j]? = some own[j] := List.getElem?_eq_getElem hjl
          have hob := HOo.out _ (List.getElem_mem hjl)
          have hyes := fun h => dstO_yes (p := p) (l := l) (a := a) hxj h
          have hno := fun h => dstO_no (p := p) (l := l) (a := a) hxj h
          have hdl := dstO_len p l own a j
          rw [← HNO.out] at hdl
          obtain ⟨q2, o2, rfl, hc2⟩ := HOr.out.cell HBr.out (by omega)
          obtain ⟨f0, f1, f2⟩ := adCells_at hxj
          have d0 := hc2 _ _ f0
          have d1 := hc2 _ _ f1
          have d2 := hc2 _ _ f2
          rw [← Nat.add_assoc] at d1 d2
          have hcall := fun u hu => HSm.out u hu own[j] hob
          generalize own[j] = b at d0 d1 d2 hyes hno hcall
          generalize dstO p l own a j = L at how hyes hno hdl ⊢
          generalize hSv : someP p l a.dst b = SV at hcall hyes hno
          obtain ⟨bv, bh, bl⟩ := b
          unfold Ad.cells at hcall
          simp only at d0 d1 d2 hcall
          have HCall := Lib.hid hcall
          have HYes := Lib.hid hyes
          have HNo := Lib.hid hno
          clear hcall hyes hno hSv hc2 f0 f1 f2 hxj hob hjl
          go_upto_region 11 with fail
          have hb := boxed wo2 (.cells #[.bool bv, .int .u64 (bh : Int), .int .u64 (bl : Int)] 40)
          have HA := Lib.hid (Blk.new wo2 40 #[.bool bv, .int .u64 (bh : Int), .int .u64 (bl : Int)])
          have HBs := Lib.hid (after HBr.out hb)
          have HPs := Lib.hid (HPr2.out.below hb HPr2.out.lt)
          have HMs := Lib.hid (HMr.out.below hb HMr.out.lt)
          have hows := Lib.hid (own_below how.out hb)
          have hbws := Lib.hid (hbw.out.trans (hb.mono hbw.out.size))
          clear d0 d1 d2 hb HBr HPr2 HMr how hbw
          generalize wo2.alloc (.cells #[.bool bv, .int .u64 (bh : Int), .int .u64 (bl : Int)] 40) = w8 at HA HBs HPs HMs hows hbws ⊢
          generalize wo2.heap.size = Y at HA ⊢
          have p0 := HPs.out.cell 0
          have p1 := HPs.out.cell 1
          have p2 := HPs.out.cell 2
          have p3 := HPs.out.cell 3
          have m2 := HMs.out.cell 2
          have y0 := HA.out.cell 0
          have y1 := HA.out.cell 1
          have y2 := HA.out.cell 2
          simp at p0 p1 p2 p3 m2 y0 y1 y2
          cases SV with
          | false =>
            have HN1 := Lib.hid (HNo.out rfl)
            go_wp2_with (go_at_call 15; (with_reducible refine (HCall.out _ HBs.out).mono ?_); rintro r wa ⟨rfl, da⟩)
            go_roundw
            case rel => exact ⟨j + 1, D, f, by omega, by go_num, by rw [HN1.out], Lib.hid (by rw [HN1.out]; exact own_below hows.out da), Lib.hid (hbws.out.trans (da.mono hbws.out.size))⟩
            case measure => simp [intOf]; omega
          | true =>
            have HY1 := Lib.hid (HYes.out rfl)
            go_wp2_with (first
              | (go_at_call 15; (with_reducible refine (HCall.out _ HBs.out).mono ?_); rintro r wa ⟨rfl, da⟩; have y0' := cellB y0 da; have y1' := cellB y1 da; have y2' := cellB y2 da; have howa := Lib.hid (own_below hows.out da); have hbwa := Lib.hid (hbws.out.trans (da.mono hbws.out.size)); clear da)
              | (at_builtin; refine wpList_append_own _ rfl _ _ 70 rfl w6.heap.size 73 i0 (.agg #[.bool false, .int .u64 0, .int .u64 0, .bool false, .int .u64 0, .int .u64 0]) 6 48 Tryz.underlying70 hi hz0 hz1 hz2 rfl (by decide) _ L.length _ rfl (howa.out.alloc _) ⟨(wa).heap.size, 0, none⟩ 1 1 [.bool bv, .int .u64 (bh : Int), .int .u64 (bl : Int), .bool bv, .int .u64 (bh : Int), .int .u64 (bl : Int)] rfl rfl (cells_new (wa) [.bool bv, .int .u64 (bh : Int), .int .u64 (bl : Int), .bool bv, .int .u64 (bh : Int), .int .u64 (bl : Int)] 73) (by intro u hu; simp at hu; rcases hu with rfl | rfl | rfl | rfl | rfl | rfl <;> rfl) (by unfold maxLen; omega) (by omega) (by have := hbwa.out.size; simp; omega) ?_; intro v' wz hown' hgrow' hnil'; have hsh := own_shape hown'; (obtain ⟨A8, c8, rfl⟩ := hsh); have HO8 := Lib.hid hown'; have HB8 := Lib.hid ((hbwa.out.alloc (hbwa.out.size) _).grown hgrow' (by have := hbwa.out.size; simp; omega) (fun q hq => (howa.out.lt q hq).1)); clear hown' hgrow' hnil'))
            go_roundw
            case rel => exact ⟨j + 1, A8, c8, by omega, by go_num, by rw [HY1.out, List.length_append]; rfl, Lib.hid (by rw [HY1.out, List.length_append, spCells_append]; exact HO8.out), HB8⟩
            case measure => simp [intOf]; omega
        obtain rfl : NO = j := by omega
        have hde := dstO_end p l own a
        rw [← HNO.out] at hde
        have hdl := dstO_len p l own a NO
        rw [← HNO.out] at hdl
        obtain ⟨L, hL⟩ : ∃ L, L = dstO p l own a NO := ⟨_, rfl⟩
        rw [← hL] at how hde hdl ⊢
        have HDe := Lib.hid hde
        have HRr := Lib.hid (HR6.out.below hbw.out)
        clear hde hL
        obtain ⟨ND, hND⟩ : ∃ n, n = L.length := ⟨_, rfl⟩
        rw [← hND] at how hdl ⊢
        have HND := Lib.hid hND
        clear hND
        by_cases hz : ND = 0
        · have q1 : ¬ (0 : Int) < (ND : Int) := by omega
          have hd0 : dstL p l own a = [] := by
            have h1 := HND.out
            rw [hz, HDe.out, List.length_map] at h1
            exact List.eq_nil_of_length_eq_zero h1.symm
          have HMn := Lib.hid (Made.skip HMd.out hd0)
          rw [← HTn.out] at HMn
          clear hz hd0
          go_wp2_with fail
          go_roundw
          case rel => exact ⟨k + 1, A, c, rs, by omega, by go_num, by rw [HRN.out], by rw [HRN.out]; exact HRr, HMn, Lib.hid (by rw [HRN.out]; omega), HBr, HPr2⟩
          case measure => simp [intOf]; omega
        have q1 : (0 : Int) < (ND : Int) := by omega
        have hd0 : dstL p l own a ≠ [] := fun h => by
          have h1 := HND.out
          rw [HDe.out, h] at h1
          exact hz h1
        have HD0 := Lib.hid hd0
        clear hz hd0
        go_upto_region 15 with fail
        have HLr : RowKit.Hid (RowR wo2 (.slice D ND f) L.length 6 (spCells L)) := Lib.hid (by have := RowR.of_own how.out; rw [HND.out] at this ⊢; exact this)
        have hLok : ∀ s ∈ L, s.Ok := fun s hs => by
          rw [HDe.out] at hs
          obtain ⟨b, hb, rfl⟩ := List.mem_map.1 hs
          have := HOo.out b (List.mem_filter.1 hb).1
          exact ⟨this, this⟩
        have HLok := Lib.hid hLok
        have hLl : L.length ≤ 2000000 := by have := HND.out; omega
        have HLl := Lib.hid hLl
        clear hLok hLl how hbw q1
        have y0 := HMr.out.cell 0
        have y1 := HMr.out.cell 1
        have y3 := HMr.out.cell 3
        have x0 := HPr2.out.cell 0
        have x1 := HPr2.out.cell 1
        have x2 := HPr2.out.cell 2
        have x3 := HPr2.out.cell 3
        simp at y0 y1 y3 x0 x1 x2 x3
        have hroom : rs.length = RN := HRN.out
        have HRoom := Lib.hid hroom
        clear hroom
        refine wp_region_E 17 (fun w' => w'.cell? ⟨M, 0, none⟩ = some (.slice A1 n1 c1) ∧ w'.cell? ⟨M, 1, none⟩ = some (.slice A2 n2 c2) ∧ w'.cell? ⟨M, 3, none⟩ = some (.slice A4 n4 c4) ∧ w'.cell? ⟨P, 0, none⟩ = some (.slice Ag NG cg) ∧ w'.cell? ⟨P, 1, none⟩ = some (.slice At NT ct) ∧ w'.cell? ⟨P, 2, none⟩ = some (.slice Ah NH ch) ∧ w'.cell? ⟨P, 3, none⟩ = some (.slice (some ⟨q, o, none⟩) NA ca)) (by kernel_rfl) (⟨y0, y1, y3, x0, x1, x2, x3⟩) (fun hHeld => ?_)
        refine' wpAnyE_take (i := 0) (v := _) rfl (by kernel_rfl) (by kernel_rfl) (by kernel_rfl) (fun _ _ _ h => h) (Or.inl ⟨by rfl, ?ly1⟩) (by assumption) (by kernel_rfl) ?lrest1
        case ly1 =>
          intro w hSw
          try dsimp only at hSw
          go_simp
          try with_reducible rfl
        try simp only [Act.put, List.setIfInBounds_toArray, List.set_cons_zero, List.set_cons_succ, List.getElem_toArray, List.getElem_cons_zero, List.getElem_cons_succ]
        refine' wpAnyE_take (i := 1) (v := _) rfl (by kernel_rfl) (by kernel_rfl) (by kernel_rfl) (fun _ _ _ h => h) (Or.inl ⟨by rfl, ?ly2⟩) (by assumption) (by kernel_rfl) ?lrest2
        case ly2 =>
          intro w hSw
          try dsimp only at hSw
          go_simp
          try with_reducible rfl
        try simp only [Act.put, List.setIfInBounds_toArray, List.set_cons_zero, List.set_cons_succ, List.getElem_toArray, List.getElem_cons_zero, List.getElem_cons_succ]
        refine' wpAnyE_take (i := 2) (v := _) rfl (by kernel_rfl) (by kernel_rfl) (by kernel_rfl) (fun _ _ _ h => h) (Or.inl ⟨by rfl, ?ly3⟩) (by assumption) (by kernel_rfl) ?lrest3
        case ly3 =>
          intro w hSw
          try dsimp only at hSw
          go_simp
          try with_reducible rfl
        try simp only [Act.put, List.setIfInBounds_toArray, List.set_cons_zero, List.set_cons_succ, List.getElem_toArray, List.getElem_cons_zero, List.getElem_cons_succ]
        refine' wpAnyE_take (i := 4) (v := _) rfl (by kernel_rfl) (by kernel_rfl) (by kernel_rfl) (fun _ _ _ h => h) (Or.inl ⟨by rfl, ?ly4⟩) (by assumption) (by kernel_rfl) ?lrest4
        case ly4 =>
          intro w hSw
          try dsimp only at hSw
          go_simp
          try with_reducible rfl
        try simp only [Act.put, List.setIfInBounds_toArray, List.set_cons_zero, List.set_cons_succ, List.getElem_toArray, List.getElem_cons_zero, List.getElem_cons_succ]
        refine' wpAnyE_take (i := 5) (v := _) rfl (by kernel_rfl) (by kernel_rfl) (by kernel_rfl) (fun _ _ _ h => h) (Or.inl ⟨by rfl, ?ly5⟩) (by assumption) (by kernel_rfl) ?lrest5
        case ly5 =>
          intro w hSw
          try dsimp only at hSw
          go_simp
          try with_reducible rfl
        try simp only [Act.put, List.setIfInBounds_toArray, List.set_cons_zero, List.set_cons_succ, List.getElem_toArray, List.getElem_cons_zero, List.getElem_cons_succ]
        refine' wpAnyE_take (i := 6) (v := _) rfl (by kernel_rfl) (by kernel_rfl) (by kernel_rfl) (fun _ _ _ h => h) (Or.inl ⟨by rfl, ?ly6⟩) (by assumption) (by kernel_rfl) ?lrest6
        case ly6 =>
          intro w hSw
          try dsimp only at hSw
          go_simp
          try with_reducible rfl
        try simp only [Act.put, List.setIfInBounds_toArray, List.set_cons_zero, List.set_cons_succ, List.getElem_toArray, List.getElem_cons_zero, List.getElem_cons_succ]
        refine' wpAnyE_take (i := 7) (v := _) rfl (by kernel_rfl) (by kernel_rfl) (by kernel_rfl) (fun _ _ _ h => h) (Or.inl ⟨by rfl, ?ly7⟩) (by assumption) (by kernel_rfl) ?lrest7
        case ly7 =>
          intro w hSw
          try dsimp only at hSw
          go_simp
          try with_reducible rfl
        try simp only [Act.put, List.setIfInBounds_toArray, List.set_cons_zero, List.set_cons_succ, List.getElem_toArray, List.getElem_cons_zero, List.getElem_cons_succ]
        refine' wpAnyE_take (i := 9) (v := _) rfl (by kernel_rfl) (by kernel_rfl) (by kernel_rfl) (fun _ _ _ h => h) (Or.inl ⟨by rfl, ?ly8⟩) (by assumption) (by kernel_rfl) ?lrest8
        case ly8 =>
          intro w hSw
          try dsimp only at hSw
          go_simp
          try with_reducible rfl
        try simp only [Act.put, List.setIfInBounds_toArray, List.set_cons_zero, List.set_cons_succ, List.getElem_toArray, List.getElem_cons_zero, List.getElem_cons_succ]
        refine' wpAnyE_take (i := 11) (v := _) rfl (by kernel_rfl) (by kernel_rfl) (by kernel_rfl) (fun _ _ _ h => h) (Or.inl ⟨by rfl, ?ly9⟩) (by assumption) (by kernel_rfl) ?lrest9
        case ly9 =>
          intro w hSw
          try dsimp only at hSw
          go_simp
          try with_reducible rfl
        try simp only [Act.put, List.setIfInBounds_toArray, List.set_cons_zero, List.set_cons_succ, List.getElem_toArray, List.getElem_cons_zero, List.getElem_cons_succ]
        refine' wpAnyE_take (i := 12) (v := _) rfl (by kernel_rfl) (by kernel_rfl) (by kernel_rfl) (fun _ _ _ h => h) (Or.inl ⟨by rfl, ?ly10⟩) (by assumption) (by kernel_rfl) ?lrest10
        case ly10 =>
          intro w hSw
          try dsimp only at hSw
          go_simp
          try with_reducible rfl
        try simp only [Act.put, List.setIfInBounds_toArray, List.set_cons_zero, List.set_cons_succ, List.getElem_toArray, List.getElem_cons_zero, List.getElem_cons_succ]
        refine wpAnyE_ready (rs := [3]) (by kernel_rfl) (by simp) ?_
        refine AllReadyE.cons rfl (fun K hK => ?_) AllReadyE.nil
        go_simp
        refine (HPr.out _ (Below.drew_ HBr.out)).mono ?_
        rintro r wb ⟨⟨v1, rfl, ho1⟩, db⟩
        have hs1 := own_shape ho1
        obtain ⟨B1, m1, rfl⟩ := hs1
        have eb := Below.of_drew db
        clear db
        have HO1 := Lib.hid (show wb.ownsRow wo2.heap.size 5 1 _ _ _ from ho1)
        clear ho1
        refine hK.out _ _ (fun _ => ⟨cellB y0 eb, cellB y1 eb, cellB y3 eb, cellB x0 eb, cellB x1 eb, cellB x2 eb, cellB x3 eb⟩) (fun hHeld => ?_)
        have hHeld := hHeld (by decide)
        clear hK K
        try simp only [Act.put, List.setIfInBounds_toArray, List.set_cons_zero, List.set_cons_succ, List.getElem_toArray, List.getElem_cons_zero, List.getElem_cons_succ]
        refine wpAnyE_ready (rs := [8]) (by kernel_rfl) (by simp) ?_
        refine AllReadyE.cons rfl (fun K hK => ?_) AllReadyE.nil
        go_simp
        refine (HSp.out _ (after HBr.out eb)).mono ?_
        rintro r wc ⟨⟨S1, v2, rfl, hp1, hs1, ho2⟩, dc⟩
        have hsh := own_shape ho2
        obtain ⟨B2, m2, rfl⟩ := hsh
        have ec := after eb dc
        have HO2 := Lib.hid (World.ownsRow.mono ho2 eb.size)
        have HO1c := Lib.hid (own_below HO1.out dc)
        have HP1 := Lib.hid hp1
        have HS1 := Lib.hid hs1
        clear dc ho2 hp1 hs1 HO1
        refine hK.out _ _ (fun _ => ⟨cellB y0 ec, cellB y1 ec, cellB y3 ec, cellB x0 ec, cellB x1 ec, cellB x2 ec, cellB x3 ec⟩) (fun hHeld => ?_)
        have hHeld := hHeld (by decide)
        clear hK K
        try simp only [Act.put, List.setIfInBounds_toArray, List.set_cons_zero, List.set_cons_succ, List.getElem_toArray, List.getElem_cons_zero, List.getElem_cons_succ]
        refine wpAnyE_ready (rs := [10]) (by kernel_rfl) (by simp) ?_
        refine AllReadyE.cons rfl (fun K hK => ?_) AllReadyE.nil
        go_simp
        refine (HNm.out _ (after HBr.out ec) _ L (HLr.out.below ec) HLl.out HLok.out).mono ?_
        rintro r wd ⟨⟨S2, v3, rfl, hp2, hs2, ho3⟩, dd⟩
        have hsh := own_shape ho3
        obtain ⟨B3, m3, rfl⟩ := hsh
        have ed := after ec dd
        have HO3 := Lib.hid (World.ownsRow.mono ho3 ec.size)
        have HO1d := Lib.hid (own_below HO1c.out dd)
        have HO2d := Lib.hid (own_below HO2.out dd)
        have HP2 := Lib.hid hp2
        have HS2 := Lib.hid hs2
        clear dd ho3 hp2 hs2 HO1c HO2
        refine hK.out _ _ (fun _ => ⟨cellB y0 ed, cellB y1 ed, cellB y3 ed, cellB x0 ed, cellB x1 ed, cellB x2 ed, cellB x3 ed⟩) (fun hHeld => ?_)
        have hHeld := hHeld (by decide)
        clear hK K
        try simp only [Act.put, List.setIfInBounds_toArray, List.set_cons_zero, List.set_cons_succ, List.getElem_toArray, List.getElem_cons_zero, List.getElem_cons_succ]
        refine wpAnyE_ready (rs := [13]) (by kernel_rfl) (by simp) ?_
        refine AllReadyE.cons rfl (fun K hK => ?_) AllReadyE.nil
        go_simp
        refine (HPo.out _ (after HBr.out ed)).mono ?_
        rintro r we ⟨⟨S3, v4, rfl, hp3, hs3, ho4⟩, de⟩
        have hsh := own_shape ho4
        obtain ⟨B4, m4, rfl⟩ := hsh
        have ee := after ed de
        have HO4 := Lib.hid (World.ownsRow.mono ho4 ed.size)
        have HO1e := Lib.hid (own_below HO1d.out de)
        have HO2e := Lib.hid (own_below HO2d.out de)
        have HO3e := Lib.hid (own_below HO3.out de)
        have HP3 := Lib.hid hp3
        have HS3 := Lib.hid hs3
        clear de ho4 hp3 hs3 HO1d HO2d HO3
        generalize hN1 : (protosR a.protos).length = N1 at HO1e ⊢
        generalize hN2 : (mergeL touchS joinS S1).length = N2 at HO2e ⊢
        generalize hN3 : (mergeL touchS joinS S2).length = N3 at HO3e ⊢
        generalize hN4 : (mergeL touchO joinO S3).length = N4 at HO4 ⊢
        have HN1 := Lib.hid hN1
        have HN2 := Lib.hid hN2
        have HN3 := Lib.hid hN3
        have HN4 := Lib.hid hN4
        clear hN1 hN2 hN3 hN4
        refine hK.out _ _ (fun _ => ⟨cellB y0 ee, cellB y1 ee, cellB y3 ee, cellB x0 ee, cellB x1 ee, cellB x2 ee, cellB x3 ee⟩) (fun hHeld => ?_)
        have hHeld := hHeld (by decide)
        clear hK K
        try simp only [Act.put, List.setIfInBounds_toArray, List.set_cons_zero, List.set_cons_succ, List.getElem_toArray, List.getElem_cons_zero, List.getElem_cons_succ]
        refine' wpAnyE_take (i := 14) (v := _) rfl (by kernel_rfl) (by kernel_rfl) (by kernel_rfl) (fun _ _ _ h => h) (Or.inl ⟨by rfl, ?ly15⟩) (by assumption) (by kernel_rfl) ?lrest15
        case ly15 =>
          intro w hSw
          try dsimp only at hSw
          go_simp
          try with_reducible rfl
        try simp only [Act.put, List.setIfInBounds_toArray, List.set_cons_zero, List.set_cons_succ, List.getElem_toArray, List.getElem_cons_zero, List.getElem_cons_succ]
        refine wpAnyE_ready (rs := [15]) (by kernel_rfl) (by simp) ?_
        refine AllReadyE.cons rfl (fun K hK => ?_) AllReadyE.nil
        go_simp
        have bc := boxed we (.cells #[.slice B1 N1 m1, .slice B2 N2 m2, .slice B3 N3 m3, .slice B4 N4 m4] 79)
        have ef := after ee bc
        obtain ⟨ys, hys, hoy, hiy, hfy⟩ := HRr.out.below ef
        have HYs := Lib.hid hys
        have HOX := Lib.hid hoy
        have HIy := Lib.hid hiy
        have HFy := Lib.hid hfy
        have HNew := Lib.hid (cells_new we [.slice B1 N1 m1, .slice B2 N2 m2, .slice B3 N3 m3, .slice B4 N4 m4] 79)
        rw [HRoom.out] at HOX
        have HBf := Lib.hid (after HBr.out ef)
        have HPf := Lib.hid (HPr2.out.below ef HPr2.out.lt)
        have HMf := Lib.hid (HMr.out.below ef HMr.out.lt)
        have hbs : RowKit.Hid (w.heap.size ≤ we.heap.size) := Lib.hid (after HBr.out ee).size
        have hbs2 : RowKit.Hid (w.heap.size ≤ wo2.heap.size) := Lib.hid HBr.out.size
        have HMem : RowKit.Hid (RlOwn (we.alloc (.cells #[.slice B1 N1 m1, .slice B2 N2 m2, .slice B3 N3 m3, .slice B4 N4 m4] 79)) w.heap.size ⟨⟨protosR a.protos, mergeL touchS joinS S1, mergeL touchS joinS S2, mergeL touchO joinO S3⟩, .slice B1 N1 m1, .slice B2 N2 m2, .slice B3 N3 m3, .slice B4 N4 m4⟩) := Lib.hid ⟨by simp only; rw [HN1.out]; exact (own_below HO1e.out bc).mono hbs2.out, by simp only; rw [HN2.out]; exact (own_below HO2e.out bc).mono hbs2.out, by simp only; rw [HN3.out]; exact (own_below HO3e.out bc).mono hbs2.out, by simp only; rw [HN4.out]; exact (own_below HO4.out bc).mono hbs2.out⟩
        have y0f := cellB y0 ef
        have y1f := cellB y1 ef
        have y3f := cellB y3 ef
        have x0f := cellB x0 ef
        have x1f := cellB x1 ef
        have x2f := cellB x2 ef
        have x3f := cellB x3 ef
        clear hys hoy hiy hfy bc ef
        refine hK.out _ _ (fun _ => ⟨y0f, y1f, y3f, x0f, x1f, x2f, x3f⟩) (fun hHeld => ?_)
        have hHeld := hHeld (by decide)
        clear hK K
        try simp only [Act.put, List.setIfInBounds_toArray, List.set_cons_zero, List.set_cons_succ, List.getElem_toArray, List.getElem_cons_zero, List.getElem_cons_succ]
        refine wpAnyE_ready (rs := [16]) (by kernel_rfl) (by simp) ?_
        refine AllReadyE.cons rfl (fun K hK => ?_) AllReadyE.nil
        refine step_append_lies _ (by rfl) _ _ _ (by rfl) w.heap.size 79 r0 (.agg #[.slice none 0 0, .slice none 0 0, .slice none 0 0, .slice none 0 0]) 4 96 Tryz.underlying32 hr hr0 hr1 hr2 rfl (by decide) _ RN _ (by rfl) HOX.out ⟨we.heap.size, 0, none⟩ 1 1 [.slice B1 N1 m1, .slice B2 N2 m2, .slice B3 N3 m3, .slice B4 N4 m4] (by rfl) rfl HNew.out (by intro u hu; simp at hu; rcases hu with rfl | rfl | rfl | rfl <;> rfl) (by decide) (by unfold maxLen; omega) (by omega) (by have := hbs.out; simp; omega) (we.heap.size + 1) (by simp) ?_
        intro g' cap' wz hown' hgrow hat hglt
        have HPz := Lib.hid (HPf.out.off (Keeps.row hgrow) (ownOff HOX.out) (by decide))
        have HBz := Lib.hid (HBf.out.grown hgrow HBf.out.size (fun q hq => (HOX.out.lt q hq).1))
        have HMz2 := HMf.out.off (Keeps.row hgrow) (ownOff HOX.out) (by decide)
        have u0 := HMz2.cell 0
        have u1 := HMz2.cell 1
        have u3 := HMz2.cell 3
        have t0 := HPz.out.cell 0
        have t1 := HPz.out.cell 1
        have t2 := HPz.out.cell 2
        have t3 := HPz.out.cell 3
        simp at u0 u1 u3 t0 t1 t2 t3
        have Hown := Lib.hid hown'
        have Hgrow := Lib.hid hgrow
        clear hown' hgrow hat hglt HMz2
        refine hK.out _ _ (fun _ => ⟨u0, u1, u3, t0, t1, t2, t3⟩) (fun hHeld => ?_)
        have hHeld := hHeld (by decide)
        clear hK K
        try simp only [Act.put, List.setIfInBounds_toArray, List.set_cons_zero, List.set_cons_succ, List.getElem_toArray, List.getElem_cons_zero, List.getElem_cons_succ]
        refine wpAnyE_ready (rs := [17]) (by kernel_rfl) (by simp) ?_
        refine AllReadyE.cons rfl (fun K hK => ?_) AllReadyE.nil
        go_simp
        refine hK.out _ _ (fun h => absurd rfl h) (fun _ => ?_)
        clear hK K hHeld
        try simp only [Act.put, List.setIfInBounds_toArray, List.set_cons_zero, List.set_cons_succ, List.getElem_toArray, List.getElem_cons_zero, List.getElem_cons_succ]
        refine wpAnyE_done (by kernel_rfl) ?_
        have HRz : RowKit.Hid (RlRow wz w.heap.size (.slice (some ⟨g', 0, none⟩) (RN + 1) cap') (rs ++ [⟨protosR a.protos, mergeL touchS joinS S1, mergeL touchS joinS S2, mergeL touchO joinO S3⟩])) := by
          refine Lib.hid ⟨ys ++ [⟨⟨protosR a.protos, mergeL touchS joinS S1, mergeL touchS joinS S2, mergeL touchO joinO S3⟩, .slice B1 N1 m1, .slice B2 N2 m2, .slice B3 N3 m3, .slice B4 N4 m4⟩], by rw [List.map_append, HYs.out]; rfl, ?_, ?_, ?_⟩
          · rw [List.length_append, HRoom.out, ruCells_snoc]
            exact Hown.out
          · intro x hx
            rcases List.mem_append.1 hx with hx | hx
            · exact (HIy.out x hx).keep (Keeps.row Hgrow.out) (ownOff HOX.out) (by decide) (by decide) (by decide)
            · rw [List.mem_singleton.1 hx]
              exact HMem.out.keep (Keeps.row Hgrow.out) (ownOff HOX.out) (by decide) (by decide) (by decide)
          · intro r hr
            rcases List.mem_append.1 hr with hr | hr
            · exact HFy.out r hr
            · rw [List.mem_singleton.1 hr]
              exact rule_fit (HOk1.out HMm.out a HXm.out) HOo.out (HSmall.out a HXm.out) (by rw [← HNO.out]; omega) HXf.out.ol HXf.out.pl HP1.out HS1.out (by rw [← HDe.out]; exact HP2.out) HS2.out HP3.out
        have HMz : RowKit.Hid (Made p l own (p.acls.take (k + 1)) (rs ++ [⟨protosR a.protos, mergeL touchS joinS S1, mergeL touchS joinS S2, mergeL touchO joinO S3⟩])) := by
          rw [HTn.out]
          exact Lib.hid (Made.more HMd.out HD0.out (rule_made (HOk1.out HMm.out a HXm.out) HOo.out HP1.out HS1.out (by rw [← HDe.out]; exact HP2.out) HS2.out HP3.out HS3.out))
        clear u0 u1 u3 t0 t1 t2 t3 y0 y1 y3 x0 x1 x2 x3 y0f y1f y3f x0f x1f x2f x3f eb ec ed ee HO1e HO2e HO3e HO4 HOX HIy HFy HMem HNew Hown Hgrow
        go_wp2_with fail
        go_roundw
        case rel => exact ⟨k + 1, some ⟨g', 0, none⟩, cap', _, by omega, by go_num, by rw [List.length_append, HRoom.out]; rfl, by rw [List.length_append, HRoom.out]; exact HRz, HMz, Lib.hid (by rw [List.length_append, HRoom.out]; simp; omega), HBz, HPz⟩
        case measure => simp [intOf]; omega
end Go.Proofs.YthglckoikjfjkaaGreatDoor
