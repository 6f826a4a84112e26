/- Joined out of: OrA. -/
import Derived.Test.YthglckoikjfjkaaGreatDoorRay
set_option linter.unusedVariables false
set_option linter.unusedSimpArgs false

/- It makes no difference in what order nodes stand (RulesOrder): the walk. (printed by order.py) -/
namespace Go.Proofs.YthglckoikjfjkaaGreatDoor
open Go.RowKit
attribute [local go_sem ↓] Go.wp_at_zero Go.wp_at_succ

def rotL (xs : List PeV) (b k : Nat) : List PeV := (List.range k).filterMap fun i => xs[(i + b) % xs.length]?
theorem rot_succ {xs : List PeV} (h : 0 < xs.length) (b k : Nat) : ∃ X, xs[(k + b) % xs.length]? = some X ∧ rotL xs b (k + 1) = rotL xs b k ++ [X] := by
  have hl := Nat.mod_lt (k + b) h
  refine ⟨xs[(k + b) % xs.length], List.getElem?_eq_getElem hl, ?_⟩
  unfold rotL
  rw [List.range_succ, List.filterMap_append]
  simp [List.getElem?_eq_getElem hl]
theorem rot_len {xs : List PeV} (h : 0 < xs.length) (b : Nat) : ∀ k, (rotL xs b k).length = k := by
  intro k
  induction k with
  | zero => rfl
  | succ k ih =>
    obtain ⟨X, _, e⟩ := rot_succ h b k
    rw [e, List.length_append, ih]
    rfl
theorem rot_mem {xs : List PeV} (h : 0 < xs.length) (b : Nat) (X : PeV) : X ∈ rotL xs b xs.length ↔ X ∈ xs := by
  unfold rotL
  rw [List.mem_filterMap]
  constructor
  · rintro ⟨i, _, hi⟩
    exact List.mem_of_getElem? hi
  · intro hX
    obtain ⟨j, hj⟩ := List.mem_iff_getElem?.1 hX
    have hjl := (List.getElem?_eq_some_iff.1 hj).1
    generalize xs.length = n at h hjl
    refine ⟨(j + (n - b % n)) % n, List.mem_range.2 (Nat.mod_lt _ h), ?_⟩
    have e : ((j + (n - b % n)) % n + b) % n = j := by
      rw [Nat.mod_add_mod]
      have h1 := Nat.div_add_mod b n
      have h2 := Nat.mod_lt b h
      have h3 : j + (n - b % n) + b = j + n * (b / n + 1) := by
        rw [Nat.mul_add, Nat.mul_one]
        omega
      rw [h3, Nat.add_mul_mod_self_left, Nat.mod_eq_of_lt hjl]
    rw [e]
    exact hj
theorem swap_mem {α : Type} {T : List α} {i k : Nat} {X Y : α} (hi : T[i]? = some X) (hk : T[k]? = some Y) (Z : α) : Z ∈ (T.set i Y).set k X ↔ Z ∈ T := by
  have li := (List.getElem?_eq_some_iff.1 hi).1
  have lk := (List.getElem?_eq_some_iff.1 hk).1
  rw [List.mem_iff_getElem?, List.mem_iff_getElem?]
  constructor
  · rintro ⟨j, hj⟩
    by_cases h1 : k = j
    · subst h1
      rw [List.getElem?_set_self (by rw [List.length_set]; exact lk)] at hj
      exact ⟨i, by rw [hi, hj]⟩
    · rw [List.getElem?_set_ne h1] at hj
      by_cases h2 : i = j
      · subst h2
        rw [List.getElem?_set_self li] at hj
        exact ⟨k, by rw [hk, hj]⟩
      · rw [List.getElem?_set_ne h2] at hj
        exact ⟨j, hj⟩
  · rintro ⟨j, hj⟩
    by_cases h1 : i = j
    · subst h1
      exact ⟨k, by rw [List.getElem?_set_self (by rw [List.length_set]; exact lk), ← hi, hj]⟩
    · by_cases h2 : k = j
      · subst h2
        exact ⟨i, by rw [List.getElem?_set_ne (Ne.symm h1), List.getElem?_set_self li, ← hk, hj]⟩
      · exact ⟨j, by rw [List.getElem?_set_ne h2, List.getElem?_set_ne h1, hj]⟩
theorem and8 (k : Nat) (hk : k < 256) : bits .and .u8 (k : Int) 1 = ((k % 2 : Nat) : Int) := by
  have h : (k : Int) < 256 := by omega
  have : ∀ m : Fin 256, bits .and .u8 ((m.val : Nat) : Int) 1 = ((m.val % 2 : Nat) : Int) := by decide +kernel
  exact this ⟨k, hk⟩
theorem info_pe : (Tryz.prog.info? 53).map (fun i => (i.zero, i.size, i.bytes)) = some (some (.agg #[.string ⟨#[]⟩, .string ⟨#[]⟩, .string ⟨#[]⟩, .slice none 0 0, .slice none 0 0, .int .u64 0, .int .u8 0, .slice none 0 0]), 8, 136) := by kernel_rfl
theorem peCells_snoc (l : List PeV) (X : PeV) : peCells (l ++ [X]) = peCells l ++ X.cells.toList := by simp [peCells]
theorem pe_open4 {w : World} {X : PeV} (h : PeIn w X) : ∃ (key disco us : ByteArray) (A1 : Option Addr) (n1 c1 : Nat) (A2 : Option Addr) (c2 ex relay : Nat) (A3 : Option Addr) (n3 c3 : Nat), X.cells = #[.string key, .string disco, .string us, .slice A1 n1 c1, .slice A2 X.x.addrs.length c2, .int .u64 (ex : Int), .int .u8 (relay : Int), .slice A3 n3 c3] ∧ X.ad = .slice A2 X.x.addrs.length c2 ∧ n1 ≤ 1048576 := by
  obtain ⟨A1, n1, c1, A2, c2, A3, n3, c3, e1, e2, e3, b1, _⟩ := pe_open3 h
  exact ⟨X.key, X.disco, X.x.user, A1, n1, c1, A2, c2, X.exp, X.relay, A3, n3, c3, by unfold PeV.cells; rw [e1, e2, e3], e2, b1⟩
theorem sets_keep {S : Nat → Prop} {g : Nat} (hg : S g) : ∀ (vs : List Value) (w : World) (j : Nat), Keeps S w (w.setCells g j vs) := by
  intro vs
  induction vs with
  | nil => intro w j; exact Keeps.refl _ _
  | cons v r ih => intro w j; exact ((Keeps.refl S w).setCell (p := ⟨g, j, none⟩) (Or.inl hg) v).trans (ih _ _)

set_option maxHeartbeats 32000000 in
set_option maxRecDepth 100000 in
theorem order_any {w : World} (env : Env w) {V : PoV} {p : Po} (h : PoRd w V p) (fit : PoFit p) {pv : Value} {xs : List PeV} (hp : PeRdIn w pv xs) (f : Fw) (of : f.src.Ok) (od : f.dst.Ok) (e : HdX) (b : Nat) (hb256 : b < 256) {O : PeV} (ho : PeIn w O) :
    Calls Tryz.prog 4 #[.agg #[V.g, V.t, V.h, V.a], pv, .agg (headCells f e), .int .u8 (b : Int), .agg O.cells] w (Got (.bool true) w) := by
  have hwk := fun u (hu : Below w.heap.size w u) => works_any (env.below hu)
  have hhv := fun u (hu : Below w.heap.size w u) => heavy5_any p (h.below hu) fit (hp.below hu)
  have hper := fun u (hu : Below w.heap.size w u) qv (l : List Pe) (hq : PeRd u qv l) (hl : l.length ≤ 4000000) => permits_any (env.below hu) (h.below hu) fit hq hl f of od e
  have hper1 := fun u (hu : Below w.heap.size w u) => hper u hu pv _ (hp.rd.below hu) (by rw [List.length_map]; have := hp.2.2; omega)
  obtain ⟨hpr, hpi, hpl⟩ := hp
  obtain ⟨D, hD⟩ : ∃ D, D = permitsP p (xs.map (·.x)) f := ⟨_, rfl⟩
  rw [← hD] at hper1
  have hmem : ∀ T : List PeV, (∀ Z, Z ∈ T ↔ Z ∈ xs) → permitsP p (T.map (·.x)) f = D := fun T hT => by
    rw [hD]
    exact permits_mem p (fun z => by
      rw [List.mem_map, List.mem_map]
      constructor
      · rintro ⟨y, hy, e⟩; exact ⟨y, (hT y).1 hy, e⟩
      · rintro ⟨y, hy, e⟩; exact ⟨y, (hT y).2 hy, e⟩) f
  have hmore : ∀ T : List PeV, (∀ Z, Z ∈ T ↔ Z ∈ xs) → (∀ c ∈ O.x.addrs, c ≠ f.src ∧ c ≠ f.dst) → permitsP p ((T ++ [O]).map (·.x)) f = D := fun T hT hO => by
    rw [List.map_append, List.map_cons, List.map_nil, permits_more p _ O.x f (fun c hc => (hO c hc).1) (fun c hc => (hO c hc).2)]
    exact hmem T hT
  obtain ⟨Ag, At, Ah, Aa, cg, ct, ch, ca, rfl⟩ := copied h
  obtain ⟨Ap, cp, rfl⟩ := hpr.shape
  obtain ⟨okey, odisco, ous, O1, on1, oc1, O2, oc2, oex, orelay, O3, on3, oc3, hOc, hOa, hOn⟩ := pe_open4 ho
  have hod := ho.mem.addrs
  have hol := ho.al
  rw [hOa] at hod
  obtain ⟨OL, hOL⟩ : ∃ n, n = O.x.addrs.length := ⟨_, rfl⟩
  rw [← hOL] at hOc hod hol
  rw [hOc]
  simp only at hhv hper hper1
  generalize p.groups.length = NG at *
  generalize p.tags.length = NT at *
  generalize p.hosts.length = NH at *
  generalize p.acls.length = NA at *
  obtain ⟨NL, hNL⟩ : ∃ n, n = xs.length := ⟨_, rfl⟩
  rw [← hNL] at hpr hpl hper1 hhv ⊢
  obtain ⟨src, hsrc⟩ : ∃ s, s = f.src := ⟨_, rfl⟩
  obtain ⟨dst, hdst⟩ : ∃ s, s = f.dst := ⟨_, rfl⟩
  rw [← hsrc, ← hdst] at hmore
  have heq := fun (c : Ad) W => eqAd c src W
  have heq2 := fun (c : Ad) W => eqAd c dst W
  rw [hsrc] at heq
  rw [hdst] at heq2
  obtain ⟨pr, ⟨sv, sh, sl⟩, ⟨dv, dh, dl⟩, fs, ft⟩ := f
  obtain ⟨h1, h2, h3, h4⟩ := e
  unfold headCells at hper hper1
  unfold headCells
  simp only at hper hper1 heq heq2 hsrc hdst ⊢
  have HWk := Lib.hid hwk
  have HHv := Lib.hid hhv
  have HPer := Lib.hid hper
  have HPer1 := Lib.hid hper1
  have HMem := Lib.hid hmem
  have HMore := Lib.hid hmore
  have HNL := Lib.hid hNL
  have HPr := Lib.hid hpr
  have HPi := Lib.hid hpi
  have HOL := Lib.hid hOL
  have HOd := Lib.hid hod
  have HOc := Lib.hid hOc
  have HOi := Lib.hid ho
  have HEq := Lib.hid heq
  have HEq2 := Lib.hid heq2
  have HSrc := Lib.hid hsrc
  have HDst := Lib.hid hdst
  obtain ⟨j0, hj, hj0, hj1, hj2⟩ := info_parts info_pe
  clear hwk hhv hper hper1 hmem hmore hNL hpr hpi hOL hod hOc ho heq heq2 hsrc hdst hD h fit env of od hOa
  go_enter Tryz.func4, Tryz.ntmps4
  go_upto_region 1 with fail
  have HB := Lib.hid (three_boxed w (.cells #[.slice Ag NG cg, .slice At NT ct, .slice Ah NH ch, .slice Aa NA ca] 26) (.cells #[.int .u8 (pr : Int), .bool sv, .int .u64 (sh : Int), .int .u64 (sl : Int), .bool dv, .int .u64 (dh : Int), .int .u64 (dl : Int), .int .u16 (fs : Int), .int .u16 (ft : Int), .int .u8 (h1 : Int), .int .u8 (h2 : Int), .int .u8 (h3 : Int), .int .i64 h4] 46) (.cells #[.string okey, .string odisco, .string ous, .slice O1 on1 oc1, .slice O2 OL oc2, .int .u64 (oex : Int), .int .u8 (orelay : Int), .slice O3 on3 oc3] 53))
  have hP := Blk.new w 26 #[.slice Ag NG cg, .slice At NT ct, .slice Ah NH ch, .slice Aa NA ca]
  have HP := Lib.hid (hP.below (two_boxed _ (.cells #[.int .u8 (pr : Int), .bool sv, .int .u64 (sh : Int), .int .u64 (sl : Int), .bool dv, .int .u64 (dh : Int), .int .u64 (dl : Int), .int .u16 (fs : Int), .int .u16 (ft : Int), .int .u8 (h1 : Int), .int .u8 (h2 : Int), .int .u8 (h3 : Int), .int .i64 h4] 46) (.cells #[.string okey, .string odisco, .string ous, .slice O1 on1 oc1, .slice O2 OL oc2, .int .u64 (oex : Int), .int .u8 (orelay : Int), .slice O3 on3 oc3] 53)) hP.lt)
  have HH := Lib.hid (mid3 w (.cells #[.slice Ag NG cg, .slice At NT ct, .slice Ah NH ch, .slice Aa NA ca] 26) (.cells #[.string okey, .string odisco, .string ous, .slice O1 on1 oc1, .slice O2 OL oc2, .int .u64 (oex : Int), .int .u8 (orelay : Int), .slice O3 on3 oc3] 53) 46 #[.int .u8 (pr : Int), .bool sv, .int .u64 (sh : Int), .int .u64 (sl : Int), .bool dv, .int .u64 (dh : Int), .int .u64 (dl : Int), .int .u16 (fs : Int), .int .u16 (ft : Int), .int .u8 (h1 : Int), .int .u8 (h2 : Int), .int .u8 (h3 : Int), .int .i64 h4])
  have HO := Lib.hid (new3 w (.cells #[.slice Ag NG cg, .slice At NT ct, .slice Ah NH ch, .slice Aa NA ca] 26) (.cells #[.int .u8 (pr : Int), .bool sv, .int .u64 (sh : Int), .int .u64 (sl : Int), .bool dv, .int .u64 (dh : Int), .int .u64 (dl : Int), .int .u16 (fs : Int), .int .u16 (ft : Int), .int .u8 (h1 : Int), .int .u8 (h2 : Int), .int .u8 (h3 : Int), .int .i64 h4] 46) 53 #[.string okey, .string odisco, .string ous, .slice O1 on1 oc1, .slice O2 OL oc2, .int .u64 (oex : Int), .int .u8 (orelay : Int), .slice O3 on3 oc3])
  clear hP
  generalize ((w.alloc (.cells #[.slice Ag NG cg, .slice At NT ct, .slice Ah NH ch, .slice Aa NA ca] 26)).alloc (.cells #[.int .u8 (pr : Int), .bool sv, .int .u64 (sh : Int), .int .u64 (sl : Int), .bool dv, .int .u64 (dh : Int), .int .u64 (dl : Int), .int .u16 (fs : Int), .int .u16 (ft : Int), .int .u8 (h1 : Int), .int .u8 (h2 : Int), .int .u8 (h3 : Int), .int .i64 h4] 46)).alloc (.cells #[.string okey, .string odisco, .string ous, .slice O1 on1 oc1, .slice O2 OL oc2, .int .u64 (oex : Int), .int .u8 (orelay : Int), .slice O3 on3 oc3] 53) = w1 at HB HP HH HO ⊢
  generalize w.heap.size + 1 + 1 = OX at HO ⊢
  generalize w.heap.size + 1 = H at HH ⊢
  obtain ⟨P, hPe⟩ : ∃ P, P = w.heap.size := ⟨_, rfl⟩
  rw [← hPe] at HP ⊢
  clear hPe
  have p0 := HP.out.cell 0
  have p1 := HP.out.cell 1
  have p2 := HP.out.cell 2
  have p3 := HP.out.cell 3
  simp at p0 p1 p2 p3
  go_wp2_with fail
  go_at_call 5
  refine (HHv.out _ HB.out).mono ?_
  rintro r w2 ⟨⟨bb, rfl, _⟩, d2⟩
  have HB2 := Lib.hid (after HB.out d2)
  have HP2 := Lib.hid (HP.out.below d2 HP.out.lt)
  have HH2 := Lib.hid (HH.out.below d2 HH.out.lt)
  have HO2 := Lib.hid (HO.out.below d2 HO.out.lt)
  clear p0 p1 p2 p3 HP HH HO HB d2 HHv
  cases bb with
  | true =>
    go_wp2_with (go_at_call 6; (with_reducible refine (HWk.out _ HB2.out).mono ?_); rintro r wz ⟨rfl, bz⟩)
    go_ret
    exact ⟨rfl, after HB2.out bz⟩
  | false =>
  by_cases hz : NL = 0
  · have q0 : ((NL : Int) == 0) = true := by simp; omega
    clear hz
    go_wp2_with (go_at_call 6; (with_reducible refine (HWk.out _ HB2.out).mono ?_); rintro r wz ⟨rfl, bz⟩)
    go_ret
    exact ⟨rfl, after HB2.out bz⟩
  have q0 : ((NL : Int) == 0) = false := by simp; omega
  have hpos : 0 < NL := by omega
  clear hz
  have o3 := HO2.out.cell 3
  have o4 := HO2.out.cell 4
  simp at o3 o4
  by_cases h20 : 20 < on1 + OL
  · have q1 : (20 : Int) < (on1 : Int) + (OL : Int) := by omega
    clear h20
    go_wp2_with (go_at_call 6; (with_reducible refine (HWk.out _ HB2.out).mono ?_); rintro r wz ⟨rfl, bz⟩)
    go_ret
    exact ⟨rfl, after HB2.out bz⟩
  have q1 : ¬ (20 : Int) < (on1 : Int) + (OL : Int) := by omega
  clear h20
  go_wp2_with fail
  clear q0 q1 o3 o4
  go_loopw [11, 12] (fun v11 v12 wr => ∃ (k : Nat) (A : Option Addr) (c : Nat), k ≤ NL ∧ v12 = .int .i64 (k : Int) ∧ v11 = .slice A k c ∧ RowKit.Hid (wr.ownsRow w2.heap.size 53 8 (.slice A k c) k (peCells (rotL xs b k))) ∧ RowKit.Hid (Below w2.heap.size w2 wr)) (fun _ v12 _ => NL - (intOf v12).toNat)
  case atStart => exact ⟨0, none, 0, Nat.zero_le _, rfl, rfl, Lib.hid (World.ownsRow_nil _ _ _ _), Lib.hid (Below.refl _ _)⟩
  case round =>
    obtain ⟨k, A, c, hk, rfl, rfl, how, hbw⟩ := hrel
    obtain ⟨wo, rfl⟩ : ∃ wo : World, wo = wr := ⟨_, rfl⟩
    by_cases hlt : k < NL
    case pos =>
      obtain ⟨X, hX, hsucc⟩ := rot_succ (show 0 < xs.length by have := HNL.out; omega) b k
      rw [← HNL.out] at hX
      have hXm := HPi.out X (List.mem_of_getElem? hX)
      obtain ⟨key, disco, us, A1, n1, c1, A2, c2, ex, relay, A3, n3, c3, hXc, _, _⟩ := pe_open4 hXm
      obtain ⟨q, o, rfl, hc⟩ := HPr.out.cell (after HB2.out hbw.out) (by omega)
      have hir : ((k : Int) + (b : Int)) % (NL : Int) = (((k + b) % NL : Nat) : Int) := by rw [Int.natCast_emod, Int.natCast_add]
      have hil : (k + b) % NL < NL := Nat.mod_lt _ hpos
      generalize (k + b) % NL = R at hX hir hil
      generalize X.x.addrs.length = n2 at hXc
      have d0 := hc _ _ (pe_cell hX hXc (r := 0) rfl)
      have d1 := hc _ _ (pe_cell hX hXc (r := 1) rfl)
      have d2 := hc _ _ (pe_cell hX hXc (r := 2) rfl)
      have d3 := hc _ _ (pe_cell hX hXc (r := 3) rfl)
      have d4 := hc _ _ (pe_cell hX hXc (r := 4) rfl)
      have d5 := hc _ _ (pe_cell hX hXc (r := 5) rfl)
      have d6 := hc _ _ (pe_cell hX hXc (r := 6) rfl)
      have d7 := hc _ _ (pe_cell hX hXc (r := 7) rfl)
      rw [Nat.add_zero] at d0
      rw [← Nat.add_assoc] at d1 d2 d3 d4 d5 d6 d7
      have HXc := Lib.hid hXc
      have HSucc := Lib.hid hsucc
      clear hc hX hXm hXc hsucc
      go_wp2_with (at_builtin; refine wpList_append_own _ rfl _ _ 27 rfl w2.heap.size 53 j0 (.agg #[.string ⟨#[]⟩, .string ⟨#[]⟩, .string ⟨#[]⟩, .slice none 0 0, .slice none 0 0, .int .u64 0, .int .u8 0, .slice none 0 0]) 8 136 Tryz.underlying27 hj hj0 hj1 hj2 rfl (by decide) _ k _ rfl (how.out.alloc _) ⟨(wo).heap.size, 0, none⟩ 1 1 [.string key, .string disco, .string us, .slice A1 n1 c1, .slice A2 n2 c2, .int .u64 (ex : Int), .int .u8 (relay : Int), .slice A3 n3 c3] rfl rfl (cells_new (wo) [.string key, .string disco, .string us, .slice A1 n1 c1, .slice A2 n2 c2, .int .u64 (ex : Int), .int .u8 (relay : Int), .slice A3 n3 c3] 53) (by intro u hu; simp at hu; rcases hu with rfl | rfl | rfl | rfl | rfl | rfl | rfl | rfl <;> rfl) (by unfold maxLen; omega) (by omega) (by have := hbw.out.size; simp; omega) ?_; intro v' wz hown' hgrow' hnil'; have hsh := own_shape hown'; (obtain ⟨A8, c8, rfl⟩ := hsh); have HO8 := Lib.hid hown'; have HB8 := Lib.hid ((hbw.out.alloc (hbw.out.size) _).grown hgrow' (by have := hbw.out.size; simp; omega) (fun q hq => (how.out.lt q hq).1)); clear hown' hgrow' hnil')
      go_roundw
      case rel => exact ⟨k + 1, A8, c8, by omega, by go_num, rfl, Lib.hid (by rw [HSucc.out, peCells_snoc, HXc.out]; exact HO8.out), HB8⟩
      case measure => simp [intOf]; omega
    obtain rfl : NL = k := by omega
    obtain ⟨T0, hT0⟩ : ∃ T, T = rotL xs b NL := ⟨_, rfl⟩
    rw [← hT0] at how
    have hmm : ∀ Z, Z ∈ T0 ↔ Z ∈ xs := fun Z => by
      rw [hT0, HNL.out]
      exact rot_mem (by have := HNL.out; omega) b Z
    have htl0 : T0.length = NL := by rw [hT0]; exact rot_len (by have := HNL.out; omega) b NL
    have HMm := Lib.hid hmm
    have HTl0 := Lib.hid htl0
    clear hT0 hmm htl0
    obtain ⟨g, rfl, hbg, hgl, _⟩ := own_block how.out hpos
    have j1 : IntKind.i64.wrap ((NL : Int) - 1) = ((NL - 1 : Nat) : Int) := by rw [IntKind.wrap_i64]; omega
    clear hgl
    go_wp2_with fail
    clear j1
    go_loopw [13, 14] (fun v13 v14 wr => ∃ (i j : Nat) (T : List PeV), i + j + 1 = NL ∧ v13 = .int .i64 (i : Int) ∧ v14 = .int .i64 (j : Int) ∧ RowKit.Hid (wr.ownsRow w2.heap.size 53 8 (.slice (some ⟨g, 0, none⟩) NL c) NL (peCells T)) ∧ RowKit.Hid (∀ Z, Z ∈ T ↔ Z ∈ xs) ∧ RowKit.Hid (T.length = NL) ∧ RowKit.Hid (Below w2.heap.size w2 wr)) (fun _ v14 _ => (intOf v14).toNat)
    case atStart => exact ⟨0, NL - 1, T0, by omega, rfl, rfl, how, HMm, HTl0, hbw⟩
    case round =>
      clear how HMm HTl0 hbw
      obtain ⟨i, j, T, hij, rfl, rfl, how, HMm, HTl, hbw⟩ := hrel
      obtain ⟨wo2, rfl⟩ : ∃ wo2 : World, wo2 = wr := ⟨_, rfl⟩
      have hand8 := and8 b hb256
      by_cases hgo : i < j ∧ b % 2 = 1
      case pos =>
        obtain ⟨hlt2, hodd⟩ := hgo
        rw [hodd] at hand8
        have q2 : (i : Int) < (j : Int) := by omega
        have hil : i < T.length := by have := HTl.out; omega
        have hjl : j < T.length := by have := HTl.out; omega
        have hX := List.getElem?_eq_getElem hil
        have hY := List.getElem?_eq_getElem hjl
        have hXm := HPi.out _ ((HMm.out _).1 (List.mem_of_getElem? hX))
        have hYm := HPi.out _ ((HMm.out _).1 (List.mem_of_getElem? hY))
        generalize T[i] = X at hX hXm
        generalize T[j] = Y at hY hYm
        obtain ⟨key, disco, us, A1, n1, c1, A2, c2, ex, relay, A3, n3, c3, hXc, _, _⟩ := pe_open4 hXm
        obtain ⟨key2, disco2, us2, B1, m1, e1, B2, e2, ex2, relay2, B3, m3, e3, hYc, _, _⟩ := pe_open4 hYm
        generalize X.x.addrs.length = n2 at hXc
        generalize Y.x.addrs.length = m2 at hYc
        obtain ⟨g', eg, _, hgl, hcell⟩ := own_block how.out hpos
        injection eg with eg
        injection eg with eg
        subst eg
        have d0 := hcell _ _ (pe_cell hX hXc (r := 0) rfl)
        have d1 := hcell _ _ (pe_cell hX hXc (r := 1) rfl)
        have d2 := hcell _ _ (pe_cell hX hXc (r := 2) rfl)
        have d3 := hcell _ _ (pe_cell hX hXc (r := 3) rfl)
        have d4 := hcell _ _ (pe_cell hX hXc (r := 4) rfl)
        have d5 := hcell _ _ (pe_cell hX hXc (r := 5) rfl)
        have d6 := hcell _ _ (pe_cell hX hXc (r := 6) rfl)
        have d7 := hcell _ _ (pe_cell hX hXc (r := 7) rfl)
        rw [Nat.add_zero] at d0
        go_upto_region 12 with fail
        have hb5 := boxed wo2 (.cells #[.string key, .string disco, .string us, .slice A1 n1 c1, .slice A2 n2 c2, .int .u64 (ex : Int), .int .u8 (relay : Int), .slice A3 n3 c3] 53)
        have M1 := Lib.hid (Blk.new wo2 53 #[.string key, .string disco, .string us, .slice A1 n1 c1, .slice A2 n2 c2, .int .u64 (ex : Int), .int .u8 (relay : Int), .slice A3 n3 c3])
        have how5 := Lib.hid (own_below how.out hb5)
        have hbw5 := Lib.hid (hbw.out.trans (hb5.mono hbw.out.size))
        have x0 := cellB d0 hb5
        have x1 := cellB d1 hb5
        have x2 := cellB d2 hb5
        have x3 := cellB d3 hb5
        have x4 := cellB d4 hb5
        have x5 := cellB d5 hb5
        have x6 := cellB d6 hb5
        have x7 := cellB d7 hb5
        have hMg : g ≠ wo2.heap.size := by omega
        have HMg := Lib.hid hMg
        generalize wo2.alloc (.cells #[.string key, .string disco, .string us, .slice A1 n1 c1, .slice A2 n2 c2, .int .u64 (ex : Int), .int .u8 (relay : Int), .slice A3 n3 c3] 53) = w5 at M1 how5 hbw5 x0 x1 x2 x3 x4 x5 x6 x7 ⊢
        generalize wo2.heap.size = M at M1 HMg ⊢
        clear d0 d1 d2 d3 d4 d5 d6 d7 hcell hb5 how hbw hMg hgl
        obtain ⟨g', eg, _, _, hcell⟩ := own_block how5.out hpos
        injection eg with eg
        injection eg with eg
        subst eg
        have d0 := hcell _ _ (pe_cell hY hYc (r := 0) rfl)
        have d1 := hcell _ _ (pe_cell hY hYc (r := 1) rfl)
        have d2 := hcell _ _ (pe_cell hY hYc (r := 2) rfl)
        have d3 := hcell _ _ (pe_cell hY hYc (r := 3) rfl)
        have d4 := hcell _ _ (pe_cell hY hYc (r := 4) rfl)
        have d5 := hcell _ _ (pe_cell hY hYc (r := 5) rfl)
        have d6 := hcell _ _ (pe_cell hY hYc (r := 6) rfl)
        have d7 := hcell _ _ (pe_cell hY hYc (r := 7) rfl)
        rw [Nat.add_zero] at d0
        have f0 := World.ownsRow.frozenAt how5.out (i * 8)
        have f1 := World.ownsRow.frozenAt how5.out (i * 8 + 1)
        have f2 := World.ownsRow.frozenAt how5.out (i * 8 + 2)
        have f3 := World.ownsRow.frozenAt how5.out (i * 8 + 3)
        have f4 := World.ownsRow.frozenAt how5.out (i * 8 + 4)
        have f5 := World.ownsRow.frozenAt how5.out (i * 8 + 5)
        have f6 := World.ownsRow.frozenAt how5.out (i * 8 + 6)
        have f7 := World.ownsRow.frozenAt how5.out (i * 8 + 7)
        have hset1 : setsL (peCells T) (i * 8) [.string key2, .string disco2, .string us2, .slice B1 m1 e1, .slice B2 m2 e2, .int .u64 (ex2 : Int), .int .u8 (relay2 : Int), .slice B3 m3 e3] = peCells (T.set i Y) := by
          have := sets_flat (fun X : PeV => X.cells.toList) 8 pe_len (by decide) T hil Y
          simp only [hYc] at this
          exact this
        have hw6 := own_sets [.string key2, .string disco2, .string us2, .slice B1 m1 e1, .slice B2 m2 e2, .int .u64 (ex2 : Int), .int .u8 (relay2 : Int), .slice B3 m3 e3] w5 (i * 8) _ how5.out
        rw [hset1] at hw6
        have hY2 : (T.set i Y)[j]? = some Y := by rw [List.getElem?_set_ne (by omega)]; exact hY
        have hb6 := below_sets hbg [.string key2, .string disco2, .string us2, .slice B1 m1 e1, .slice B2 m2 e2, .int .u64 (ex2 : Int), .int .u8 (relay2 : Int), .slice B3 m3 e3] w5 (i * 8) hbw5.out
        have hk6 := sets_keep (S := fun x => x = g) rfl [.string key2, .string disco2, .string us2, .slice B1 m1 e1, .slice B2 m2 e2, .int .u64 (ex2 : Int), .int .u8 (relay2 : Int), .slice B3 m3 e3] w5 (i * 8)
        have M6 := Lib.hid (Blk.keep M1.out hk6 (fun e => HMg.out e.symm))
        have hset2 : setsL (peCells (T.set i Y)) (j * 8) [.string key, .string disco, .string us, .slice A1 n1 c1, .slice A2 n2 c2, .int .u64 (ex : Int), .int .u8 (relay : Int), .slice A3 n3 c3] = peCells ((T.set i Y).set j X) := by
          have := sets_flat (fun X : PeV => X.cells.toList) 8 pe_len (by decide) (T.set i Y) (i := j) (by rw [List.length_set]; exact hjl) X
          simp only [hXc] at this
          exact this
        have HYc := Lib.hid hYc
        have HY2 := Lib.hid hY2
        have hsw := fun Z => (swap_mem hX hY Z).trans (HMm.out Z)
        have HSw := Lib.hid hsw
        have HSet2 := Lib.hid hset2
        have HW6 := Lib.hid hw6
        have HB6 := Lib.hid hb6
        clear hw6 hb6 hk6 hset1 hset2 hsw hX hY hXm hYm hXc hYc hcell hY2
        go_upto_region 13 with fail
        refine (show Code.wp _ _ _ _ (w5.setCells g (i * 8) [.string key2, .string disco2, .string us2, .slice B1 m1 e1, .slice B2 m2 e2, .int .u64 (ex2 : Int), .int .u8 (relay2 : Int), .slice B3 m3 e3]) from ?_)
        generalize w5.setCells g (i * 8) [.string key2, .string disco2, .string us2, .slice B1 m1 e1, .slice B2 m2 e2, .int .u64 (ex2 : Int), .int .u8 (relay2 : Int), .slice B3 m3 e3] = w6 at HW6 HB6 M6 ⊢
        clear d0 d1 d2 d3 d4 d5 d6 d7 x0 x1 x2 x3 x4 x5 x6 x7 f0 f1 f2 f3 f4 f5 f6 f7 M1 how5 hbw5
        obtain ⟨g', eg, _, _, hcell⟩ := own_block HW6.out hpos
        injection eg with eg
        injection eg with eg
        subst eg
        have d0 := hcell _ _ (pe_cell HY2.out HYc.out (r := 0) rfl)
        have d1 := hcell _ _ (pe_cell HY2.out HYc.out (r := 1) rfl)
        have d2 := hcell _ _ (pe_cell HY2.out HYc.out (r := 2) rfl)
        have d3 := hcell _ _ (pe_cell HY2.out HYc.out (r := 3) rfl)
        have d4 := hcell _ _ (pe_cell HY2.out HYc.out (r := 4) rfl)
        have d5 := hcell _ _ (pe_cell HY2.out HYc.out (r := 5) rfl)
        have d6 := hcell _ _ (pe_cell HY2.out HYc.out (r := 6) rfl)
        have d7 := hcell _ _ (pe_cell HY2.out HYc.out (r := 7) rfl)
        rw [Nat.add_zero] at d0
        clear hcell
        have m0 := M6.out.cell 0
        have m1' := M6.out.cell 1
        have m2' := M6.out.cell 2
        have m3' := M6.out.cell 3
        have m4' := M6.out.cell 4
        have m5' := M6.out.cell 5
        have m6' := M6.out.cell 6
        have m7' := M6.out.cell 7
        simp at m0 m1' m2' m3' m4' m5' m6' m7'
        have f0 := World.ownsRow.frozenAt HW6.out (j * 8)
        have f1 := World.ownsRow.frozenAt HW6.out (j * 8 + 1)
        have f2 := World.ownsRow.frozenAt HW6.out (j * 8 + 2)
        have f3 := World.ownsRow.frozenAt HW6.out (j * 8 + 3)
        have f4 := World.ownsRow.frozenAt HW6.out (j * 8 + 4)
        have f5 := World.ownsRow.frozenAt HW6.out (j * 8 + 5)
        have f6 := World.ownsRow.frozenAt HW6.out (j * 8 + 6)
        have f7 := World.ownsRow.frozenAt HW6.out (j * 8 + 7)
        have hw7 := own_sets [.string key, .string disco, .string us, .slice A1 n1 c1, .slice A2 n2 c2, .int .u64 (ex : Int), .int .u8 (relay : Int), .slice A3 n3 c3] w6 (j * 8) _ HW6.out
        rw [HSet2.out] at hw7
        have HW7 := Lib.hid hw7
        clear hw7
        have HB7 := Lib.hid (below_sets hbg [.string key, .string disco, .string us, .slice A1 n1 c1, .slice A2 n2 c2, .int .u64 (ex : Int), .int .u8 (relay : Int), .slice A3 n3 c3] w6 (j * 8) HB6.out)
        have j2 : IntKind.i64.wrap ((j : Int) - 1) = ((j - 1 : Nat) : Int) := by rw [IntKind.wrap_i64]; omega
        go_upto_region 10 with fail
        refine (show Code.wp _ _ _ _ (w6.setCells g (j * 8) [.string key, .string disco, .string us, .slice A1 n1 c1, .slice A2 n2 c2, .int .u64 (ex : Int), .int .u8 (relay : Int), .slice A3 n3 c3]) from ?_)
        generalize w6.setCells g (j * 8) [.string key, .string disco, .string us, .slice A1 n1 c1, .slice A2 n2 c2, .int .u64 (ex : Int), .int .u8 (relay : Int), .slice A3 n3 c3] = w7 at HW7 HB7 ⊢
        clear d0 d1 d2 d3 d4 d5 d6 d7 f0 f1 f2 f3 f4 f5 f6 f7 m0 m1' m2' m3' m4' m5' m6' m7' HW6 HB6 M6
        go_wp2_with fail
        go_roundw
        case rel => exact ⟨i + 1, j - 1, (T.set i Y).set j X, by omega, by go_num, by go_num, HW7, HSw, Lib.hid (by rw [List.length_set, List.length_set]; exact HTl.out), HB7⟩
        case measure => simp [intOf]; omega
      have hcond : RowKit.Hid (Below w.heap.size w wo2) := Lib.hid (after HB2.out hbw.out)
      have hTin : PeRdIn wo2 (.slice (some ⟨g, 0, none⟩) NL c) T := ⟨by have := RowR.of_own how.out; rw [HTl.out]; exact this, fun Z hZ => (HPi.out Z ((HMm.out Z).1 hZ)).below hcond.out, by have := HTl.out; omega⟩
      have HTin := Lib.hid hTin
      have HP3 := Lib.hid (HP2.out.below hbw.out HP2.out.lt)
      have HH3 := Lib.hid (HH2.out.below hbw.out HH2.out.lt)
      have HO3 := Lib.hid (HO2.out.below hbw.out HO2.out.lt)
      clear hTin
      by_cases hlt2 : i < j
      · have q2 : (i : Int) < (j : Int) := by omega
        have hev : b % 2 = 0 := by have : ¬ b % 2 = 1 := fun e => hgo ⟨hlt2, e⟩; omega
        rw [hev] at hand8
        clear hgo
        have p0 := HP3.out.cell 0
        have p1 := HP3.out.cell 1
        have p2 := HP3.out.cell 2
        have p3 := HP3.out.cell 3
        have g0 := HH3.out.cell 0
        have g1 := HH3.out.cell 1
        have g2 := HH3.out.cell 2
        have g3 := HH3.out.cell 3
        have g4 := HH3.out.cell 4
        have g5 := HH3.out.cell 5
        have g6 := HH3.out.cell 6
        have g7 := HH3.out.cell 7
        have g8 := HH3.out.cell 8
        have g9 := HH3.out.cell 9
        have g10 := HH3.out.cell 10
        have g11 := HH3.out.cell 11
        have g12 := HH3.out.cell 12
        simp at p0 p1 p2 p3 g0 g1 g2 g3 g4 g5 g6 g7 g8 g9 g10 g11 g12
        go_upto_region 15 with (go_at_call 12; (with_reducible refine (HPer1.out _ hcond.out).mono ?_); rintro r w8 ⟨rfl, d8⟩)
        have hcond8 := Lib.hid (after hcond.out d8)
        have HTin8 := Lib.hid (HTin.out.below d8)
        have HP8 := Lib.hid (HP3.out.below d8 HP3.out.lt)
        have HH8 := Lib.hid (HH3.out.below d8 HH3.out.lt)
        have HO8 := Lib.hid (HO3.out.below d8 HO3.out.lt)
        have how8 := Lib.hid (own_below how.out d8)
        have hbw8 := Lib.hid (hbw.out.trans (d8.mono hbw.out.size))
        clear p0 p1 p2 p3 g0 g1 g2 g3 g4 g5 g6 g7 g8 g9 g10 g11 g12 d8 HTin HP3 HH3 HO3 how hbw hcond
        have hp2 := fun u (hu : Below w8.heap.size w8 u) => HPer.out u (after hcond8.out hu) _ _ (HTin8.out.below hu).rd (by rw [List.length_map]; have := HTl.out; omega)
        simp only [HMem.out T HMm.out] at hp2
        have HPer2 := Lib.hid hp2
        clear hp2
        have p0 := HP8.out.cell 0
        have p1 := HP8.out.cell 1
        have p2 := HP8.out.cell 2
        have p3 := HP8.out.cell 3
        have g0 := HH8.out.cell 0
        have g1 := HH8.out.cell 1
        have g2 := HH8.out.cell 2
        have g3 := HH8.out.cell 3
        have g4 := HH8.out.cell 4
        have g5 := HH8.out.cell 5
        have g6 := HH8.out.cell 6
        have g7 := HH8.out.cell 7
        have g8 := HH8.out.cell 8
        have g9 := HH8.out.cell 9
        have g10 := HH8.out.cell 10
        have g11 := HH8.out.cell 11
        have g12 := HH8.out.cell 12
        simp at p0 p1 p2 p3 g0 g1 g2 g3 g4 g5 g6 g7 g8 g9 g10 g11 g12
        have hne : (D != D) = false := by simp
        go_upto_region 17 with (go_at_call 12; (with_reducible refine (HPer2.out _ (Below.refl _ _)).mono ?_); rintro r w9 ⟨rfl, d9⟩)
        have HB9 := Lib.hid (after hcond8.out d9)
        have HTin9 := Lib.hid (HTin8.out.below d9)
        have HP9 := Lib.hid (HP8.out.below d9 HP8.out.lt)
        have HH9 := Lib.hid (HH8.out.below d9 HH8.out.lt)
        have HO9 := Lib.hid (HO8.out.below d9 HO8.out.lt)
        have how9 := Lib.hid (own_below how8.out d9)
        have hbw9 := Lib.hid (hbw8.out.trans (d9.mono hbw8.out.size))
        clear p0 p1 p2 p3 g0 g1 g2 g3 g4 g5 g6 g7 g8 g9 g10 g11 g12 d9 hne HTin8 HP8 HH8 HO8 how8 hbw8 hcond8 HPer2
        have o4 := HO9.out.cell 4
        simp at o4
        go_wp2_with fail
        clear o4
        go_loopw [17] (fun v17 wr => ∃ (k : Nat), k ≤ OL ∧ v17 = .int .i64 (k : Int) ∧ RowKit.Hid (∀ t c, t < k → O.x.addrs[t]? = some c → c ≠ src ∧ c ≠ dst) ∧ RowKit.Hid (Below w9.heap.size w9 wr)) (fun v17 _ => OL - (intOf v17).toNat)
        case atStart => exact ⟨0, Nat.zero_le _, rfl, Lib.hid (fun t c ht => absurd ht (Nat.not_lt_zero t)), Lib.hid (Below.refl _ _)⟩
        case round =>
          obtain ⟨k, hk2, rfl, HN, hbz⟩ := hrel
          obtain ⟨wo3, rfl⟩ : ∃ wo3 : World, wo3 = wr := ⟨_, rfl⟩
          have HBa := Lib.hid (after HB9.out hbz.out)
          have HOa := Lib.hid (HO9.out.below hbz.out HO9.out.lt)
          have HHa := Lib.hid (HH9.out.below hbz.out HH9.out.lt)
          have o4 := HOa.out.cell 4
          simp at o4
          by_cases hlt3 : k < OL
          case pos =>
            have hkl : k < O.x.addrs.length := by have := HOL.out; omega
            have hxk : O.x.addrs[k]? = some O.x.addrs[k] := List.getElem?_eq_getElem hkl
            obtain ⟨q, o, rfl, hc⟩ := HOd.out.cell HBa.out (by omega)
            obtain ⟨f0, f1, f2⟩ := adCells_at hxk
            have d0 := hc _ _ f0
            have d1 := hc _ _ f1
            have d2 := hc _ _ f2
            rw [← Nat.add_assoc] at d1 d2
            have he1 := HEq.out O.x.addrs[k]
            have he2 := HEq2.out O.x.addrs[k]
            have hnx : O.x.addrs[k] ≠ src → O.x.addrs[k] ≠ dst → ∀ t c, t < k + 1 → O.x.addrs[t]? = some c → c ≠ src ∧ c ≠ dst := fun z1 z2 t c ht hc => by
              by_cases et : t = k
              · rw [et, hxk] at hc
                injection hc with hc
                rw [← hc]
                exact ⟨z1, z2⟩
              · exact HN.out t c (by omega) hc
            rw [HSrc.out, HDst.out] at hnx
            generalize O.x.addrs[k] = a at d0 d1 d2 he1 he2 hnx
            obtain ⟨D1, hD1⟩ : ∃ D1, D1 = decide ((⟨sv, sh, sl⟩ : Ad) = a) := ⟨_, rfl⟩
            obtain ⟨D2, hD2⟩ : ∃ D2, D2 = decide ((⟨dv, dh, dl⟩ : Ad) = a) := ⟨_, rfl⟩
            rw [← hD1] at he1
            rw [← hD2] at he2
            have hnx2 : D1 = false → D2 = false → ∀ t c, t < k + 1 → O.x.addrs[t]? = some c → c ≠ src ∧ c ≠ dst := fun z1 z2 => by
              rw [HSrc.out, HDst.out]
              rw [hD1, decide_eq_false_iff_not] at z1
              rw [hD2, decide_eq_false_iff_not] at z2
              exact hnx (fun e => z1 e.symm) (fun e => z2 e.symm)
            have HNx := Lib.hid hnx2
            obtain ⟨av, ah, al⟩ := a
            simp only at d0 d1 d2 he1 he2
            clear hnx hnx2 hD1 hD2 hc f0 f1 f2 hxk hkl
            have g1 := HHa.out.cell 1
            have g2 := HHa.out.cell 2
            have g3 := HHa.out.cell 3
            have g4 := HHa.out.cell 4
            have g5 := HHa.out.cell 5
            have g6 := HHa.out.cell 6
            simp at g1 g2 g3 g4 g5 g6
            have hdw : ∀ nq, Below w9.heap.size w9 (wo3.drewN nq) := fun nq => Below.drewN_ hbz.out nq
            have HDw := Lib.hid hdw
            clear hdw
            cases D1 with
            | true =>
              go_upto_region 20 with fail
              go_quiet (fail)
              go_wp2_with (go_at_call 6; (with_reducible refine (HWk.out _ (after HB9.out (HDw.out _))).mono ?_); rintro r wz ⟨rfl, bz⟩)
              go_ret
              exact ⟨rfl, after (after HB9.out (HDw.out _)) bz⟩
            | false =>
              cases D2 with
              | true =>
                go_upto_region 20 with fail
                go_quiet (fail)
                go_wp2_with (go_at_call 6; (with_reducible refine (HWk.out _ (after HB9.out (HDw.out _))).mono ?_); rintro r wz ⟨rfl, bz⟩)
                go_ret
                exact ⟨rfl, after (after HB9.out (HDw.out _)) bz⟩
              | false =>
                have HNz := Lib.hid (HNx.out rfl rfl)
                go_upto_region 20 with fail
                go_quiet (fail)
                go_wp2_with fail
                go_roundw
                case rel => exact ⟨k + 1, by omega, by go_num, HNz, Lib.hid (HDw.out _)⟩
                case measure => simp [intOf]; omega
          obtain rfl : OL = k := by omega
          have hno : ∀ c ∈ O.x.addrs, c ≠ src ∧ c ≠ dst := fun c hc => by
            obtain ⟨t, ht⟩ := List.mem_iff_getElem?.1 hc
            exact HN.out t c (by have := (List.getElem?_eq_some_iff.1 ht).1; have := HOL.out; omega) ht
          have hmo := HMore.out T HMm.out hno
          have HMo := Lib.hid hmo
          have HPa := Lib.hid (HP9.out.below hbz.out HP9.out.lt)
          have howa := Lib.hid (own_below how9.out hbz.out)
          clear hno hmo HN
          go_upto_region 22 with fail
          clear o4
          have hbc := boxed wo3.drew (.cells #[.string okey, .string odisco, .string ous, .slice O1 on1 oc1, .slice O2 OL oc2, .int .u64 (oex : Int), .int .u8 (orelay : Int), .slice O3 on3 oc3] 53)
          have hbc2 : Below wo3.heap.size wo3 (wo3.drew.alloc (.cells #[.string okey, .string odisco, .string ous, .slice O1 on1 oc1, .slice O2 OL oc2, .int .u64 (oex : Int), .int .u8 (orelay : Int), .slice O3 on3 oc3] 53)) := ⟨hbc.os, hbc.tape, hbc.output, hbc.size, hbc.block⟩
          have HBc := Lib.hid (after HBa.out hbc2)
          have HPc := Lib.hid (HPa.out.below hbc2 HPa.out.lt)
          have HHc := Lib.hid (HHa.out.below hbc2 HHa.out.lt)
          have HOcc := Lib.hid (HOa.out.below hbc2 HOa.out.lt)
          have howc := Lib.hid (own_below howa.out hbc2)
          have hw2s : RowKit.Hid (w2.heap.size ≤ wo3.heap.size) := Lib.hid (by have h1 := hbz.out.size; have h2 := hbw9.out.size; omega)
          have HNew := Lib.hid (cells_new wo3.drew [.string okey, .string odisco, .string ous, .slice O1 on1 oc1, .slice O2 OL oc2, .int .u64 (oex : Int), .int .u8 (orelay : Int), .slice O3 on3 oc3] 53)
          have hOg : RowKit.Hid (g ≠ OX) := Lib.hid (by have := HO2.out.lt; omega)
          have p0 := HPa.out.cell 0
          have p1 := HPa.out.cell 1
          have p2 := HPa.out.cell 2
          have p3 := HPa.out.cell 3
          have g0 := HHa.out.cell 0
          have g1 := HHa.out.cell 1
          have g2 := HHa.out.cell 2
          have g3 := HHa.out.cell 3
          have g4 := HHa.out.cell 4
          have g5 := HHa.out.cell 5
          have g6 := HHa.out.cell 6
          have g7 := HHa.out.cell 7
          have g8 := HHa.out.cell 8
          have g9 := HHa.out.cell 9
          have g10 := HHa.out.cell 10
          have g11 := HHa.out.cell 11
          have g12 := HHa.out.cell 12
          have o0 := HOa.out.cell 0
          have o1 := HOa.out.cell 1
          have o2 := HOa.out.cell 2
          have o3 := HOa.out.cell 3
          have o4 := HOa.out.cell 4
          have o5 := HOa.out.cell 5
          have o6 := HOa.out.cell 6
          have o7 := HOa.out.cell 7
          simp at p0 p1 p2 p3 g0 g1 g2 g3 g4 g5 g6 g7 g8 g9 g10 g11 g12 o0 o1 o2 o3 o4 o5 o6 o7
          have P0 := HPc.out.cell 0
          have P1 := HPc.out.cell 1
          have P2 := HPc.out.cell 2
          have P3 := HPc.out.cell 3
          have G0 := HHc.out.cell 0
          have G1 := HHc.out.cell 1
          have G2 := HHc.out.cell 2
          have G3 := HHc.out.cell 3
          have G4 := HHc.out.cell 4
          have G5 := HHc.out.cell 5
          have G6 := HHc.out.cell 6
          have G7 := HHc.out.cell 7
          have G8 := HHc.out.cell 8
          have G9 := HHc.out.cell 9
          have G10 := HHc.out.cell 10
          have G11 := HHc.out.cell 11
          have G12 := HHc.out.cell 12
          have Q0 := HOcc.out.cell 0
          have Q1 := HOcc.out.cell 1
          have Q2 := HOcc.out.cell 2
          have Q3 := HOcc.out.cell 3
          have Q4 := HOcc.out.cell 4
          have Q5 := HOcc.out.cell 5
          have Q6 := HOcc.out.cell 6
          have Q7 := HOcc.out.cell 7
          simp at P0 P1 P2 P3 G0 G1 G2 G3 G4 G5 G6 G7 G8 G9 G10 G11 G12 Q0 Q1 Q2 Q3 Q4 Q5 Q6 Q7
          cases D with
          | true =>
            refine wp_region_E 12 (fun w' => w'.cell? ⟨P, 0, none⟩ = some (.slice Ag NG cg) ∧ w'.cell? ⟨P, 1, none⟩ = some (.slice At NT ct) ∧ w'.cell? ⟨P, 2, none⟩ = some (.slice Ah NH ch) ∧ w'.cell? ⟨P, 3, none⟩ = some (.slice Aa NA ca) ∧ w'.cell? ⟨H, 0, none⟩ = some (.int .u8 (pr : Int)) ∧ w'.cell? ⟨H, 1, none⟩ = some (.bool sv) ∧ w'.cell? ⟨H, 2, none⟩ = some (.int .u64 (sh : Int)) ∧ w'.cell? ⟨H, 3, none⟩ = some (.int .u64 (sl : Int)) ∧ w'.cell? ⟨H, 4, none⟩ = some (.bool dv) ∧ w'.cell? ⟨H, 5, none⟩ = some (.int .u64 (dh : Int)) ∧ w'.cell? ⟨H, 6, none⟩ = some (.int .u64 (dl : Int)) ∧ w'.cell? ⟨H, 7, none⟩ = some (.int .u16 (fs : Int)) ∧ w'.cell? ⟨H, 8, none⟩ = some (.int .u16 (ft : Int)) ∧ w'.cell? ⟨H, 9, none⟩ = some (.int .u8 (h1 : Int)) ∧ w'.cell? ⟨H, 10, none⟩ = some (.int .u8 (h2 : Int)) ∧ w'.cell? ⟨H, 11, none⟩ = some (.int .u8 (h3 : Int)) ∧ w'.cell? ⟨H, 12, none⟩ = some (.int .i64 h4) ∧ w'.cell? ⟨OX, 0, none⟩ = some (.string okey) ∧ w'.cell? ⟨OX, 1, none⟩ = some (.string odisco) ∧ w'.cell? ⟨OX, 2, none⟩ = some (.string ous) ∧ w'.cell? ⟨OX, 3, none⟩ = some (.slice O1 on1 oc1) ∧ w'.cell? ⟨OX, 4, none⟩ = some (.slice O2 OL oc2) ∧ w'.cell? ⟨OX, 5, none⟩ = some (.int .u64 (oex : Int)) ∧ w'.cell? ⟨OX, 6, none⟩ = some (.int .u8 (orelay : Int)) ∧ w'.cell? ⟨OX, 7, none⟩ = some (.slice O3 on3 oc3)) (by kernel_rfl) (⟨p0, p1, p2, p3, g0, g1, g2, g3, g4, g5, g6, g7, g8, g9, g10, g11, g12, o0, o1, o2, o3, o4, o5, o6, o7⟩) (fun hHeld => ?_)
            refine' wpAnyE_take (i := 0) (v := _) rfl (by kernel_rfl) (by kernel_rfl) (by kernel_rfl) (fun _ _ _ h => h) (Or.inl ⟨by rfl, ?ly1⟩) (by assumption) (by kernel_rfl) ?lrest1
            case ly1 =>
              intro w hSw
              try dsimp only at hSw
              go_simp
              try with_reducible rfl
            try simp only [Act.put, List.setIfInBounds_toArray, List.set_cons_zero, List.set_cons_succ, List.getElem_toArray, List.getElem_cons_zero, List.getElem_cons_succ]
            refine' wpAnyE_take (i := 1) (v := _) rfl (by kernel_rfl) (by kernel_rfl) (by kernel_rfl) (fun _ _ _ h => h) (Or.inl ⟨by rfl, ?ly2⟩) (by assumption) (by kernel_rfl) ?lrest2
            case ly2 =>
              intro w hSw
              try dsimp only at hSw
              go_simp
              try with_reducible rfl
            try simp only [Act.put, List.setIfInBounds_toArray, List.set_cons_zero, List.set_cons_succ, List.getElem_toArray, List.getElem_cons_zero, List.getElem_cons_succ]
            refine' wpAnyE_take (i := 2) (v := _) rfl (by kernel_rfl) (by kernel_rfl) (by kernel_rfl) (fun _ _ _ h => h) (Or.inl ⟨by rfl, ?ly3⟩) (by assumption) (by kernel_rfl) ?lrest3
            case ly3 =>
              intro w hSw
              try dsimp only at hSw
              go_simp
              try with_reducible rfl
            try simp only [Act.put, List.setIfInBounds_toArray, List.set_cons_zero, List.set_cons_succ, List.getElem_toArray, List.getElem_cons_zero, List.getElem_cons_succ]
            refine' wpAnyE_take (i := 5) (v := _) rfl (by kernel_rfl) (by kernel_rfl) (by kernel_rfl) (fun _ _ _ h => h) (Or.inl ⟨by rfl, ?ly4⟩) (by assumption) (by kernel_rfl) ?lrest4
            case ly4 =>
              intro w hSw
              try dsimp only at hSw
              go_simp
              try with_reducible rfl
            try simp only [Act.put, List.setIfInBounds_toArray, List.set_cons_zero, List.set_cons_succ, List.getElem_toArray, List.getElem_cons_zero, List.getElem_cons_succ]
            refine' wpAnyE_take (i := 7) (v := _) rfl (by kernel_rfl) (by kernel_rfl) (by kernel_rfl) (fun _ _ _ h => h) (Or.inl ⟨by rfl, ?ly5⟩) (by assumption) (by kernel_rfl) ?lrest5
            case ly5 =>
              intro w hSw
              try dsimp only at hSw
              go_simp
              try with_reducible rfl
            try simp only [Act.put, List.setIfInBounds_toArray, List.set_cons_zero, List.set_cons_succ, List.getElem_toArray, List.getElem_cons_zero, List.getElem_cons_succ]
            refine wpAnyE_ready (rs := [3]) (by kernel_rfl) (by simp) ?_
            refine AllReadyE.cons rfl (fun K hK => ?_) AllReadyE.nil
            go_simp
            skip
            refine hK.out _ _ (fun _ => ⟨P0, P1, P2, P3, G0, G1, G2, G3, G4, G5, G6, G7, G8, G9, G10, G11, G12, Q0, Q1, Q2, Q3, Q4, Q5, Q6, Q7⟩) (fun hHeld => ?_)
            have hHeld := hHeld (by decide)
            clear hK K
            try simp only [Act.put, List.setIfInBounds_toArray, List.set_cons_zero, List.set_cons_succ, List.getElem_toArray, List.getElem_cons_zero, List.getElem_cons_succ]
            refine wpAnyE_ready (rs := [4]) (by kernel_rfl) (by simp) ?_
            refine AllReadyE.cons rfl (fun K hK => ?_) AllReadyE.nil
            refine step_append_lies _ (by rfl) _ _ _ (by rfl) w2.heap.size 53 j0 (.agg #[.string ⟨#[]⟩, .string ⟨#[]⟩, .string ⟨#[]⟩, .slice none 0 0, .slice none 0 0, .int .u64 0, .int .u8 0, .slice none 0 0]) 8 136 Tryz.underlying27 hj hj0 hj1 hj2 rfl (by decide) _ NL _ (by rfl) howc.out ⟨wo3.drew.heap.size, 0, none⟩ 1 1 [.string okey, .string odisco, .string ous, .slice O1 on1 oc1, .slice O2 OL oc2, .int .u64 (oex : Int), .int .u8 (orelay : Int), .slice O3 on3 oc3] (by rfl) rfl HNew.out (by intro u hu; simp at hu; rcases hu with rfl | rfl | rfl | rfl | rfl | rfl | rfl | rfl <;> rfl) (by decide) (by unfold maxLen; omega) (by omega) (by have := hw2s.out; simp [World.drew]; omega) (wo3.heap.size + 1) (by simp [World.drew]) ?_
            intro g' cap' wz hown' hgrow hat hglt
            have HPz := Lib.hid (HPc.out.off (Keeps.row hgrow) (ownOff howc.out) (by decide))
            have HHz := Lib.hid (HHc.out.off (Keeps.row hgrow) (ownOff howc.out) (by decide))
            have HOz := Lib.hid (Blk.keep HOcc.out (Keeps.row hgrow) (fun e => hOg.out (by injection e)))
            have hbz2 := HBc.out.grown hgrow HBc.out.size (fun q hq => by have h1 := (howc.out.lt q hq).1; have h2 := HB2.out.size; omega)
            have HBz := Lib.hid hbz2
            have hrow : PeRd wz (.slice (some ⟨g', 0, none⟩) (NL + 1) cap') ((T ++ [O]).map (·.x)) := ⟨T ++ [O], rfl, by rw [List.length_append, HTl.out, peCells_snoc, HOc.out]; exact RowR.of_own hown', fun X hX => by rcases List.mem_append.1 hX with hX | hX; exact ((HPi.out X ((HMm.out X).1 hX)).below hbz2).mem; rw [List.mem_singleton.1 hX]; exact (HOi.out.below hbz2).mem⟩
            have hp3 := HPer.out wz hbz2 _ _ hrow (by rw [List.length_map, List.length_append, HTl.out]; simp; omega)
            rw [HMo.out] at hp3
            have HPer3 := Lib.hid hp3
            have z0 := HPz.out.cell 0
            have z1 := HPz.out.cell 1
            have z2 := HPz.out.cell 2
            have z3 := HPz.out.cell 3
            have zg0 := HHz.out.cell 0
            have zg1 := HHz.out.cell 1
            have zg2 := HHz.out.cell 2
            have zg3 := HHz.out.cell 3
            have zg4 := HHz.out.cell 4
            have zg5 := HHz.out.cell 5
            have zg6 := HHz.out.cell 6
            have zg7 := HHz.out.cell 7
            have zg8 := HHz.out.cell 8
            have zg9 := HHz.out.cell 9
            have zg10 := HHz.out.cell 10
            have zg11 := HHz.out.cell 11
            have zg12 := HHz.out.cell 12
            have zo0 := HOz.out.cell 0
            have zo1 := HOz.out.cell 1
            have zo2 := HOz.out.cell 2
            have zo3 := HOz.out.cell 3
            have zo4 := HOz.out.cell 4
            have zo5 := HOz.out.cell 5
            have zo6 := HOz.out.cell 6
            have zo7 := HOz.out.cell 7
            simp at z0 z1 z2 z3 zg0 zg1 zg2 zg3 zg4 zg5 zg6 zg7 zg8 zg9 zg10 zg11 zg12 zo0 zo1 zo2 zo3 zo4 zo5 zo6 zo7
            clear hown' hgrow hat hglt hrow hp3 hbz2
            refine hK.out _ _ (fun _ => ⟨z0, z1, z2, z3, zg0, zg1, zg2, zg3, zg4, zg5, zg6, zg7, zg8, zg9, zg10, zg11, zg12, zo0, zo1, zo2, zo3, zo4, zo5, zo6, zo7⟩) (fun hHeld => ?_)
            have hHeld := hHeld (by decide)
            clear hK K
            try simp only [Act.put, List.setIfInBounds_toArray, List.set_cons_zero, List.set_cons_succ, List.getElem_toArray, List.getElem_cons_zero, List.getElem_cons_succ]
            refine wpAnyE_ready (rs := [6]) (by kernel_rfl) (by simp) ?_
            refine AllReadyE.cons rfl (fun K hK => ?_) AllReadyE.nil
            go_simp
            refine HPer3.out.mono ?_
            rintro r wp ⟨rfl, dp⟩
            refine hK.out _ _ (fun _ => ⟨cellB z0 dp, cellB z1 dp, cellB z2 dp, cellB z3 dp, cellB zg0 dp, cellB zg1 dp, cellB zg2 dp, cellB zg3 dp, cellB zg4 dp, cellB zg5 dp, cellB zg6 dp, cellB zg7 dp, cellB zg8 dp, cellB zg9 dp, cellB zg10 dp, cellB zg11 dp, cellB zg12 dp, cellB zo0 dp, cellB zo1 dp, cellB zo2 dp, cellB zo3 dp, cellB zo4 dp, cellB zo5 dp, cellB zo6 dp, cellB zo7 dp⟩) (fun hHeld => ?_)
            have hHeld := hHeld (by decide)
            clear hK K
            try simp only [Act.put, List.setIfInBounds_toArray, List.set_cons_zero, List.set_cons_succ, List.getElem_toArray, List.getElem_cons_zero, List.getElem_cons_succ]
            refine' wpAnyE_take (i := 8) (v := _) rfl (by kernel_rfl) (by kernel_rfl) (by kernel_rfl) (fun _ _ _ h => h) (Or.inl ⟨by rfl, ?ly9⟩) (by assumption) (by kernel_rfl) ?lrest9
            case ly9 =>
              intro w hSw
              try dsimp only at hSw
              go_simp
              try with_reducible rfl
            try simp only [Act.put, List.setIfInBounds_toArray, List.set_cons_zero, List.set_cons_succ, List.getElem_toArray, List.getElem_cons_zero, List.getElem_cons_succ]
            refine' wpAnyE_take (i := 9) (v := _) rfl (by kernel_rfl) (by kernel_rfl) (by kernel_rfl) (fun _ _ _ h => h) (Or.inl ⟨by rfl, ?ly10⟩) (by assumption) (by kernel_rfl) ?lrest10
            case ly10 =>
              intro w hSw
              try dsimp only at hSw
              go_simp
              try with_reducible rfl
            try simp only [Act.put, List.setIfInBounds_toArray, List.set_cons_zero, List.set_cons_succ, List.getElem_toArray, List.getElem_cons_zero, List.getElem_cons_succ]
            refine wpAnyE_ready (rs := [10]) (by kernel_rfl) (by simp) ?_
            refine AllReadyE.cons rfl (fun K hK => ?_) AllReadyE.nil
            go_simp
            refine (HWk.out _ (after HBz.out dp)).mono ?_
            rintro r wq ⟨rfl, dq⟩
            have dpq := after dp dq
            refine hK.out _ _ (fun _ => ⟨cellB z0 dpq, cellB z1 dpq, cellB z2 dpq, cellB z3 dpq, cellB zg0 dpq, cellB zg1 dpq, cellB zg2 dpq, cellB zg3 dpq, cellB zg4 dpq, cellB zg5 dpq, cellB zg6 dpq, cellB zg7 dpq, cellB zg8 dpq, cellB zg9 dpq, cellB zg10 dpq, cellB zg11 dpq, cellB zg12 dpq, cellB zo0 dpq, cellB zo1 dpq, cellB zo2 dpq, cellB zo3 dpq, cellB zo4 dpq, cellB zo5 dpq, cellB zo6 dpq, cellB zo7 dpq⟩) (fun hHeld => ?_)
            have hHeld := hHeld (by decide)
            clear hK K
            try simp only [Act.put, List.setIfInBounds_toArray, List.set_cons_zero, List.set_cons_succ, List.getElem_toArray, List.getElem_cons_zero, List.getElem_cons_succ]
            refine' wpAnyE_take (i := 11) (v := _) rfl (by kernel_rfl) (by kernel_rfl) (by kernel_rfl) (fun _ _ _ h => h) (Or.inl ⟨by rfl, ?ly12⟩) (by assumption) (by kernel_rfl) ?lrest12
            case ly12 =>
              intro w hSw
              try dsimp only at hSw
              go_simp
              try with_reducible rfl
            try simp only [Act.put, List.setIfInBounds_toArray, List.set_cons_zero, List.set_cons_succ, List.getElem_toArray, List.getElem_cons_zero, List.getElem_cons_succ]
            refine wpAnyE_ready (rs := [12]) (by kernel_rfl) (by simp) ?_
            refine AllReadyE.cons rfl (fun K hK => ?_) AllReadyE.nil
            go_simp
            refine hK.out _ _ (fun h => absurd rfl h) (fun _ => ?_)
            clear hK K hHeld
            try simp only [Act.put, List.setIfInBounds_toArray, List.set_cons_zero, List.set_cons_succ, List.getElem_toArray, List.getElem_cons_zero, List.getElem_cons_succ]
            refine wpAnyE_done (by kernel_rfl) ?_
            go_wp2_with fail
            go_ret
            exact ⟨by first | rfl | simp, after HBz.out dpq⟩
          | false =>
            refine wp_region_E 12 (fun w' => w'.cell? ⟨P, 0, none⟩ = some (.slice Ag NG cg) ∧ w'.cell? ⟨P, 1, none⟩ = some (.slice At NT ct) ∧ w'.cell? ⟨P, 2, none⟩ = some (.slice Ah NH ch) ∧ w'.cell? ⟨P, 3, none⟩ = some (.slice Aa NA ca) ∧ w'.cell? ⟨H, 0, none⟩ = some (.int .u8 (pr : Int)) ∧ w'.cell? ⟨H, 1, none⟩ = some (.bool sv) ∧ w'.cell? ⟨H, 2, none⟩ = some (.int .u64 (sh : Int)) ∧ w'.cell? ⟨H, 3, none⟩ = some (.int .u64 (sl : Int)) ∧ w'.cell? ⟨H, 4, none⟩ = some (.bool dv) ∧ w'.cell? ⟨H, 5, none⟩ = some (.int .u64 (dh : Int)) ∧ w'.cell? ⟨H, 6, none⟩ = some (.int .u64 (dl : Int)) ∧ w'.cell? ⟨H, 7, none⟩ = some (.int .u16 (fs : Int)) ∧ w'.cell? ⟨H, 8, none⟩ = some (.int .u16 (ft : Int)) ∧ w'.cell? ⟨H, 9, none⟩ = some (.int .u8 (h1 : Int)) ∧ w'.cell? ⟨H, 10, none⟩ = some (.int .u8 (h2 : Int)) ∧ w'.cell? ⟨H, 11, none⟩ = some (.int .u8 (h3 : Int)) ∧ w'.cell? ⟨H, 12, none⟩ = some (.int .i64 h4) ∧ w'.cell? ⟨OX, 0, none⟩ = some (.string okey) ∧ w'.cell? ⟨OX, 1, none⟩ = some (.string odisco) ∧ w'.cell? ⟨OX, 2, none⟩ = some (.string ous) ∧ w'.cell? ⟨OX, 3, none⟩ = some (.slice O1 on1 oc1) ∧ w'.cell? ⟨OX, 4, none⟩ = some (.slice O2 OL oc2) ∧ w'.cell? ⟨OX, 5, none⟩ = some (.int .u64 (oex : Int)) ∧ w'.cell? ⟨OX, 6, none⟩ = some (.int .u8 (orelay : Int)) ∧ w'.cell? ⟨OX, 7, none⟩ = some (.slice O3 on3 oc3)) (by kernel_rfl) (⟨p0, p1, p2, p3, g0, g1, g2, g3, g4, g5, g6, g7, g8, g9, g10, g11, g12, o0, o1, o2, o3, o4, o5, o6, o7⟩) (fun hHeld => ?_)
            refine' wpAnyE_take (i := 0) (v := _) rfl (by kernel_rfl) (by kernel_rfl) (by kernel_rfl) (fun _ _ _ h => h) (Or.inl ⟨by rfl, ?ly14⟩) (by assumption) (by kernel_rfl) ?lrest14
            case ly14 =>
              intro w hSw
              try dsimp only at hSw
              go_simp
              try with_reducible rfl
            try simp only [Act.put, List.setIfInBounds_toArray, List.set_cons_zero, List.set_cons_succ, List.getElem_toArray, List.getElem_cons_zero, List.getElem_cons_succ]
            refine' wpAnyE_take (i := 1) (v := _) rfl (by kernel_rfl) (by kernel_rfl) (by kernel_rfl) (fun _ _ _ h => h) (Or.inl ⟨by rfl, ?ly15⟩) (by assumption) (by kernel_rfl) ?lrest15
            case ly15 =>
              intro w hSw
              try dsimp only at hSw
              go_simp
              try with_reducible rfl
            try simp only [Act.put, List.setIfInBounds_toArray, List.set_cons_zero, List.set_cons_succ, List.getElem_toArray, List.getElem_cons_zero, List.getElem_cons_succ]
            refine' wpAnyE_take (i := 2) (v := _) rfl (by kernel_rfl) (by kernel_rfl) (by kernel_rfl) (fun _ _ _ h => h) (Or.inl ⟨by rfl, ?ly16⟩) (by assumption) (by kernel_rfl) ?lrest16
            case ly16 =>
              intro w hSw
              try dsimp only at hSw
              go_simp
              try with_reducible rfl
            try simp only [Act.put, List.setIfInBounds_toArray, List.set_cons_zero, List.set_cons_succ, List.getElem_toArray, List.getElem_cons_zero, List.getElem_cons_succ]
            refine' wpAnyE_take (i := 5) (v := _) rfl (by kernel_rfl) (by kernel_rfl) (by kernel_rfl) (fun _ _ _ h => h) (Or.inl ⟨by rfl, ?ly17⟩) (by assumption) (by kernel_rfl) ?lrest17
            case ly17 =>
              intro w hSw
              try dsimp only at hSw
              go_simp
              try with_reducible rfl
            try simp only [Act.put, List.setIfInBounds_toArray, List.set_cons_zero, List.set_cons_succ, List.getElem_toArray, List.getElem_cons_zero, List.getElem_cons_succ]
            refine' wpAnyE_take (i := 7) (v := _) rfl (by kernel_rfl) (by kernel_rfl) (by kernel_rfl) (fun _ _ _ h => h) (Or.inl ⟨by rfl, ?ly18⟩) (by assumption) (by kernel_rfl) ?lrest18
            case ly18 =>
              intro w hSw
              try dsimp only at hSw
              go_simp
              try with_reducible rfl
            try simp only [Act.put, List.setIfInBounds_toArray, List.set_cons_zero, List.set_cons_succ, List.getElem_toArray, List.getElem_cons_zero, List.getElem_cons_succ]
            refine wpAnyE_ready (rs := [3]) (by kernel_rfl) (by simp) ?_
            refine AllReadyE.cons rfl (fun K hK => ?_) AllReadyE.nil
            go_simp
            skip
            refine hK.out _ _ (fun _ => ⟨P0, P1, P2, P3, G0, G1, G2, G3, G4, G5, G6, G7, G8, G9, G10, G11, G12, Q0, Q1, Q2, Q3, Q4, Q5, Q6, Q7⟩) (fun hHeld => ?_)
            have hHeld := hHeld (by decide)
            clear hK K
            try simp only [Act.put, List.setIfInBounds_toArray, List.set_cons_zero, List.set_cons_succ, List.getElem_toArray, List.getElem_cons_zero, List.getElem_cons_succ]
            refine wpAnyE_ready (rs := [4]) (by kernel_rfl) (by simp) ?_
            refine AllReadyE.cons rfl (fun K hK => ?_) AllReadyE.nil
            refine step_append_lies _ (by rfl) _ _ _ (by rfl) w2.heap.size 53 j0 (.agg #[.string ⟨#[]⟩, .string ⟨#[]⟩, .string ⟨#[]⟩, .slice none 0 0, .slice none 0 0, .int .u64 0, .int .u8 0, .slice none 0 0]) 8 136 Tryz.underlying27 hj hj0 hj1 hj2 rfl (by decide) _ NL _ (by rfl) howc.out ⟨wo3.drew.heap.size, 0, none⟩ 1 1 [.string okey, .string odisco, .string ous, .slice O1 on1 oc1, .slice O2 OL oc2, .int .u64 (oex : Int), .int .u8 (orelay : Int), .slice O3 on3 oc3] (by rfl) rfl HNew.out (by intro u hu; simp at hu; rcases hu with rfl | rfl | rfl | rfl | rfl | rfl | rfl | rfl <;> rfl) (by decide) (by unfold maxLen; omega) (by omega) (by have := hw2s.out; simp [World.drew]; omega) (wo3.heap.size + 1) (by simp [World.drew]) ?_
            intro g' cap' wz hown' hgrow hat hglt
            have HPz := Lib.hid (HPc.out.off (Keeps.row hgrow) (ownOff howc.out) (by decide))
            have HHz := Lib.hid (HHc.out.off (Keeps.row hgrow) (ownOff howc.out) (by decide))
            have HOz := Lib.hid (Blk.keep HOcc.out (Keeps.row hgrow) (fun e => hOg.out (by injection e)))
            have hbz2 := HBc.out.grown hgrow HBc.out.size (fun q hq => by have h1 := (howc.out.lt q hq).1; have h2 := HB2.out.size; omega)
            have HBz := Lib.hid hbz2
            have hrow : PeRd wz (.slice (some ⟨g', 0, none⟩) (NL + 1) cap') ((T ++ [O]).map (·.x)) := ⟨T ++ [O], rfl, by rw [List.length_append, HTl.out, peCells_snoc, HOc.out]; exact RowR.of_own hown', fun X hX => by rcases List.mem_append.1 hX with hX | hX; exact ((HPi.out X ((HMm.out X).1 hX)).below hbz2).mem; rw [List.mem_singleton.1 hX]; exact (HOi.out.below hbz2).mem⟩
            have hp3 := HPer.out wz hbz2 _ _ hrow (by rw [List.length_map, List.length_append, HTl.out]; simp; omega)
            rw [HMo.out] at hp3
            have HPer3 := Lib.hid hp3
            have z0 := HPz.out.cell 0
            have z1 := HPz.out.cell 1
            have z2 := HPz.out.cell 2
            have z3 := HPz.out.cell 3
            have zg0 := HHz.out.cell 0
            have zg1 := HHz.out.cell 1
            have zg2 := HHz.out.cell 2
            have zg3 := HHz.out.cell 3
            have zg4 := HHz.out.cell 4
            have zg5 := HHz.out.cell 5
            have zg6 := HHz.out.cell 6
            have zg7 := HHz.out.cell 7
            have zg8 := HHz.out.cell 8
            have zg9 := HHz.out.cell 9
            have zg10 := HHz.out.cell 10
            have zg11 := HHz.out.cell 11
            have zg12 := HHz.out.cell 12
            have zo0 := HOz.out.cell 0
            have zo1 := HOz.out.cell 1
            have zo2 := HOz.out.cell 2
            have zo3 := HOz.out.cell 3
            have zo4 := HOz.out.cell 4
            have zo5 := HOz.out.cell 5
            have zo6 := HOz.out.cell 6
            have zo7 := HOz.out.cell 7
            simp at z0 z1 z2 z3 zg0 zg1 zg2 zg3 zg4 zg5 zg6 zg7 zg8 zg9 zg10 zg11 zg12 zo0 zo1 zo2 zo3 zo4 zo5 zo6 zo7
            clear hown' hgrow hat hglt hrow hp3 hbz2
            refine hK.out _ _ (fun _ => ⟨z0, z1, z2, z3, zg0, zg1, zg2, zg3, zg4, zg5, zg6, zg7, zg8, zg9, zg10, zg11, zg12, zo0, zo1, zo2, zo3, zo4, zo5, zo6, zo7⟩) (fun hHeld => ?_)
            have hHeld := hHeld (by decide)
            clear hK K
            try simp only [Act.put, List.setIfInBounds_toArray, List.set_cons_zero, List.set_cons_succ, List.getElem_toArray, List.getElem_cons_zero, List.getElem_cons_succ]
            refine wpAnyE_ready (rs := [6]) (by kernel_rfl) (by simp) ?_
            refine AllReadyE.cons rfl (fun K hK => ?_) AllReadyE.nil
            go_simp
            refine HPer3.out.mono ?_
            rintro r wp ⟨rfl, dp⟩
            refine hK.out _ _ (fun _ => ⟨cellB z0 dp, cellB z1 dp, cellB z2 dp, cellB z3 dp, cellB zg0 dp, cellB zg1 dp, cellB zg2 dp, cellB zg3 dp, cellB zg4 dp, cellB zg5 dp, cellB zg6 dp, cellB zg7 dp, cellB zg8 dp, cellB zg9 dp, cellB zg10 dp, cellB zg11 dp, cellB zg12 dp, cellB zo0 dp, cellB zo1 dp, cellB zo2 dp, cellB zo3 dp, cellB zo4 dp, cellB zo5 dp, cellB zo6 dp, cellB zo7 dp⟩) (fun hHeld => ?_)
            have hHeld := hHeld (by decide)
            clear hK K
            try simp only [Act.put, List.setIfInBounds_toArray, List.set_cons_zero, List.set_cons_succ, List.getElem_toArray, List.getElem_cons_zero, List.getElem_cons_succ]
            refine' wpAnyE_take (i := 8) (v := _) rfl (by kernel_rfl) (by kernel_rfl) (by kernel_rfl) (fun _ _ _ h => h) (Or.inl ⟨by rfl, ?ly22⟩) (by assumption) (by kernel_rfl) ?lrest22
            case ly22 =>
              intro w hSw
              try dsimp only at hSw
              go_simp
              try with_reducible rfl
            try simp only [Act.put, List.setIfInBounds_toArray, List.set_cons_zero, List.set_cons_succ, List.getElem_toArray, List.getElem_cons_zero, List.getElem_cons_succ]
            refine' wpAnyE_take (i := 9) (v := _) rfl (by kernel_rfl) (by kernel_rfl) (by kernel_rfl) (fun _ _ _ h => h) (Or.inl ⟨by rfl, ?ly23⟩) (by assumption) (by kernel_rfl) ?lrest23
            case ly23 =>
              intro w hSw
              try dsimp only at hSw
              go_simp
              try with_reducible rfl
            try simp only [Act.put, List.setIfInBounds_toArray, List.set_cons_zero, List.set_cons_succ, List.getElem_toArray, List.getElem_cons_zero, List.getElem_cons_succ]
            refine wpAnyE_ready (rs := [10]) (by kernel_rfl) (by simp) ?_
            refine AllReadyE.cons rfl (fun K hK => ?_) AllReadyE.nil
            go_simp
            refine (HWk.out _ (after HBz.out dp)).mono ?_
            rintro r wq ⟨rfl, dq⟩
            have dpq := after dp dq
            refine hK.out _ _ (fun _ => ⟨cellB z0 dpq, cellB z1 dpq, cellB z2 dpq, cellB z3 dpq, cellB zg0 dpq, cellB zg1 dpq, cellB zg2 dpq, cellB zg3 dpq, cellB zg4 dpq, cellB zg5 dpq, cellB zg6 dpq, cellB zg7 dpq, cellB zg8 dpq, cellB zg9 dpq, cellB zg10 dpq, cellB zg11 dpq, cellB zg12 dpq, cellB zo0 dpq, cellB zo1 dpq, cellB zo2 dpq, cellB zo3 dpq, cellB zo4 dpq, cellB zo5 dpq, cellB zo6 dpq, cellB zo7 dpq⟩) (fun hHeld => ?_)
            have hHeld := hHeld (by decide)
            clear hK K
            try simp only [Act.put, List.setIfInBounds_toArray, List.set_cons_zero, List.set_cons_succ, List.getElem_toArray, List.getElem_cons_zero, List.getElem_cons_succ]
            refine' wpAnyE_take (i := 11) (v := _) rfl (by kernel_rfl) (by kernel_rfl) (by kernel_rfl) (fun _ _ _ h => h) (Or.inl ⟨by rfl, ?ly25⟩) (by assumption) (by kernel_rfl) ?lrest25
            case ly25 =>
              intro w hSw
              try dsimp only at hSw
              go_simp
              try with_reducible rfl
            try simp only [Act.put, List.setIfInBounds_toArray, List.set_cons_zero, List.set_cons_succ, List.getElem_toArray, List.getElem_cons_zero, List.getElem_cons_succ]
            refine wpAnyE_ready (rs := [12]) (by kernel_rfl) (by simp) ?_
            refine AllReadyE.cons rfl (fun K hK => ?_) AllReadyE.nil
            go_simp
            refine hK.out _ _ (fun h => absurd rfl h) (fun _ => ?_)
            clear hK K hHeld
            try simp only [Act.put, List.setIfInBounds_toArray, List.set_cons_zero, List.set_cons_succ, List.getElem_toArray, List.getElem_cons_zero, List.getElem_cons_succ]
            refine wpAnyE_done (by kernel_rfl) ?_
            go_wp2_with fail
            go_ret
            exact ⟨by first | rfl | simp, after HBz.out dpq⟩
      · have q2 : ¬ (i : Int) < (j : Int) := by omega
        clear hgo hand8
        have p0 := HP3.out.cell 0
        have p1 := HP3.out.cell 1
        have p2 := HP3.out.cell 2
        have p3 := HP3.out.cell 3
        have g0 := HH3.out.cell 0
        have g1 := HH3.out.cell 1
        have g2 := HH3.out.cell 2
        have g3 := HH3.out.cell 3
        have g4 := HH3.out.cell 4
        have g5 := HH3.out.cell 5
        have g6 := HH3.out.cell 6
        have g7 := HH3.out.cell 7
        have g8 := HH3.out.cell 8
        have g9 := HH3.out.cell 9
        have g10 := HH3.out.cell 10
        have g11 := HH3.out.cell 11
        have g12 := HH3.out.cell 12
        simp at p0 p1 p2 p3 g0 g1 g2 g3 g4 g5 g6 g7 g8 g9 g10 g11 g12
        go_upto_region 15 with (go_at_call 12; (with_reducible refine (HPer1.out _ hcond.out).mono ?_); rintro r w8 ⟨rfl, d8⟩)
        have hcond8 := Lib.hid (after hcond.out d8)
        have HTin8 := Lib.hid (HTin.out.below d8)
        have HP8 := Lib.hid (HP3.out.below d8 HP3.out.lt)
        have HH8 := Lib.hid (HH3.out.below d8 HH3.out.lt)
        have HO8 := Lib.hid (HO3.out.below d8 HO3.out.lt)
        have how8 := Lib.hid (own_below how.out d8)
        have hbw8 := Lib.hid (hbw.out.trans (d8.mono hbw.out.size))
        clear p0 p1 p2 p3 g0 g1 g2 g3 g4 g5 g6 g7 g8 g9 g10 g11 g12 d8 HTin HP3 HH3 HO3 how hbw hcond
        have hp2 := fun u (hu : Below w8.heap.size w8 u) => HPer.out u (after hcond8.out hu) _ _ (HTin8.out.below hu).rd (by rw [List.length_map]; have := HTl.out; omega)
        simp only [HMem.out T HMm.out] at hp2
        have HPer2 := Lib.hid hp2
        clear hp2
        have p0 := HP8.out.cell 0
        have p1 := HP8.out.cell 1
        have p2 := HP8.out.cell 2
        have p3 := HP8.out.cell 3
        have g0 := HH8.out.cell 0
        have g1 := HH8.out.cell 1
        have g2 := HH8.out.cell 2
        have g3 := HH8.out.cell 3
        have g4 := HH8.out.cell 4
        have g5 := HH8.out.cell 5
        have g6 := HH8.out.cell 6
        have g7 := HH8.out.cell 7
        have g8 := HH8.out.cell 8
        have g9 := HH8.out.cell 9
        have g10 := HH8.out.cell 10
        have g11 := HH8.out.cell 11
        have g12 := HH8.out.cell 12
        simp at p0 p1 p2 p3 g0 g1 g2 g3 g4 g5 g6 g7 g8 g9 g10 g11 g12
        have hne : (D != D) = false := by simp
        go_upto_region 17 with (go_at_call 12; (with_reducible refine (HPer2.out _ (Below.refl _ _)).mono ?_); rintro r w9 ⟨rfl, d9⟩)
        have HB9 := Lib.hid (after hcond8.out d9)
        have HTin9 := Lib.hid (HTin8.out.below d9)
        have HP9 := Lib.hid (HP8.out.below d9 HP8.out.lt)
        have HH9 := Lib.hid (HH8.out.below d9 HH8.out.lt)
        have HO9 := Lib.hid (HO8.out.below d9 HO8.out.lt)
        have how9 := Lib.hid (own_below how8.out d9)
        have hbw9 := Lib.hid (hbw8.out.trans (d9.mono hbw8.out.size))
        clear p0 p1 p2 p3 g0 g1 g2 g3 g4 g5 g6 g7 g8 g9 g10 g11 g12 d9 hne HTin8 HP8 HH8 HO8 how8 hbw8 hcond8 HPer2
        have o4 := HO9.out.cell 4
        simp at o4
        go_wp2_with fail
        clear o4
        go_loopw [17] (fun v17 wr => ∃ (k : Nat), k ≤ OL ∧ v17 = .int .i64 (k : Int) ∧ RowKit.Hid (∀ t c, t < k → O.x.addrs[t]? = some c → c ≠ src ∧ c ≠ dst) ∧ RowKit.Hid (Below w9.heap.size w9 wr)) (fun v17 _ => OL - (intOf v17).toNat)
        case atStart => exact ⟨0, Nat.zero_le _, rfl, Lib.hid (fun t c ht => absurd ht (Nat.not_lt_zero t)), Lib.hid (Below.refl _ _)⟩
        case round =>
          obtain ⟨k, hk2, rfl, HN, hbz⟩ := hrel
          obtain ⟨wo3, rfl⟩ : ∃ wo3 : World, wo3 = wr := ⟨_, rfl⟩
          have HBa := Lib.hid (after HB9.out hbz.out)
          have HOa := Lib.hid (HO9.out.below hbz.out HO9.out.lt)
          have HHa := Lib.hid (HH9.out.below hbz.out HH9.out.lt)
          have o4 := HOa.out.cell 4
          simp at o4
          by_cases hlt3 : k < OL
          case pos =>
            have hkl : k < O.x.addrs.length := by have := HOL.out; omega
            have hxk : O.x.addrs[k]? = some O.x.addrs[k] := List.getElem?_eq_getElem hkl
            obtain ⟨q, o, rfl, hc⟩ := HOd.out.cell HBa.out (by omega)
            obtain ⟨f0, f1, f2⟩ := adCells_at hxk
            have d0 := hc _ _ f0
            have d1 := hc _ _ f1
            have d2 := hc _ _ f2
            rw [← Nat.add_assoc] at d1 d2
            have he1 := HEq.out O.x.addrs[k]
            have he2 := HEq2.out O.x.addrs[k]
            have hnx : O.x.addrs[k] ≠ src → O.x.addrs[k] ≠ dst → ∀ t c, t < k + 1 → O.x.addrs[t]? = some c → c ≠ src ∧ c ≠ dst := fun z1 z2 t c ht hc => by
              by_cases et : t = k
              · rw [et, hxk] at hc
                injection hc with hc
                rw [← hc]
                exact ⟨z1, z2⟩
              · exact HN.out t c (by omega) hc
            rw [HSrc.out, HDst.out] at hnx
            generalize O.x.addrs[k] = a at d0 d1 d2 he1 he2 hnx
            obtain ⟨D1, hD1⟩ : ∃ D1, D1 = decide ((⟨sv, sh, sl⟩ : Ad) = a) := ⟨_, rfl⟩
            obtain ⟨D2, hD2⟩ : ∃ D2, D2 = decide ((⟨dv, dh, dl⟩ : Ad) = a) := ⟨_, rfl⟩
            rw [← hD1] at he1
            rw [← hD2] at he2
            have hnx2 : D1 = false → D2 = false → ∀ t c, t < k + 1 → O.x.addrs[t]? = some c → c ≠ src ∧ c ≠ dst := fun z1 z2 => by
              rw [HSrc.out, HDst.out]
              rw [hD1, decide_eq_false_iff_not] at z1
              rw [hD2, decide_eq_false_iff_not] at z2
              exact hnx (fun e => z1 e.symm) (fun e => z2 e.symm)
            have HNx := Lib.hid hnx2
            obtain ⟨av, ah, al⟩ := a
            simp only at d0 d1 d2 he1 he2
            clear hnx hnx2 hD1 hD2 hc f0 f1 f2 hxk hkl
            have g1 := HHa.out.cell 1
            have g2 := HHa.out.cell 2
            have g3 := HHa.out.cell 3
            have g4 := HHa.out.cell 4
            have g5 := HHa.out.cell 5
            have g6 := HHa.out.cell 6
            simp at g1 g2 g3 g4 g5 g6
            have hdw : ∀ nq, Below w9.heap.size w9 (wo3.drewN nq) := fun nq => Below.drewN_ hbz.out nq
            have HDw := Lib.hid hdw
            clear hdw
            cases D1 with
            | true =>
              go_upto_region 20 with fail
              go_quiet (fail)
              go_wp2_with (go_at_call 6; (with_reducible refine (HWk.out _ (after HB9.out (HDw.out _))).mono ?_); rintro r wz ⟨rfl, bz⟩)
              go_ret
              exact ⟨rfl, after (after HB9.out (HDw.out _)) bz⟩
            | false =>
              cases D2 with
              | true =>
                go_upto_region 20 with fail
                go_quiet (fail)
                go_wp2_with (go_at_call 6; (with_reducible refine (HWk.out _ (after HB9.out (HDw.out _))).mono ?_); rintro r wz ⟨rfl, bz⟩)
                go_ret
                exact ⟨rfl, after (after HB9.out (HDw.out _)) bz⟩
              | false =>
                have HNz := Lib.hid (HNx.out rfl rfl)
                go_upto_region 20 with fail
                go_quiet (fail)
                go_wp2_with fail
                go_roundw
                case rel => exact ⟨k + 1, by omega, by go_num, HNz, Lib.hid (HDw.out _)⟩
                case measure => simp [intOf]; omega
          obtain rfl : OL = k := by omega
          have hno : ∀ c ∈ O.x.addrs, c ≠ src ∧ c ≠ dst := fun c hc => by
            obtain ⟨t, ht⟩ := List.mem_iff_getElem?.1 hc
            exact HN.out t c (by have := (List.getElem?_eq_some_iff.1 ht).1; have := HOL.out; omega) ht
          have hmo := HMore.out T HMm.out hno
          have HMo := Lib.hid hmo
          have HPa := Lib.hid (HP9.out.below hbz.out HP9.out.lt)
          have howa := Lib.hid (own_below how9.out hbz.out)
          clear hno hmo HN
          go_upto_region 22 with fail
          clear o4
          have hbc := boxed wo3.drew (.cells #[.string okey, .string odisco, .string ous, .slice O1 on1 oc1, .slice O2 OL oc2, .int .u64 (oex : Int), .int .u8 (orelay : Int), .slice O3 on3 oc3] 53)
          have hbc2 : Below wo3.heap.size wo3 (wo3.drew.alloc (.cells #[.string okey, .string odisco, .string ous, .slice O1 on1 oc1, .slice O2 OL oc2, .int .u64 (oex : Int), .int .u8 (orelay : Int), .slice O3 on3 oc3] 53)) := ⟨hbc.os, hbc.tape, hbc.output, hbc.size, hbc.block⟩
          have HBc := Lib.hid (after HBa.out hbc2)
          have HPc := Lib.hid (HPa.out.below hbc2 HPa.out.lt)
          have HHc := Lib.hid (HHa.out.below hbc2 HHa.out.lt)
          have HOcc := Lib.hid (HOa.out.below hbc2 HOa.out.lt)
          have howc := Lib.hid (own_below howa.out hbc2)
          have hw2s : RowKit.Hid (w2.heap.size ≤ wo3.heap.size) := Lib.hid (by have h1 := hbz.out.size; have h2 := hbw9.out.size; omega)
          have HNew := Lib.hid (cells_new wo3.drew [.string okey, .string odisco, .string ous, .slice O1 on1 oc1, .slice O2 OL oc2, .int .u64 (oex : Int), .int .u8 (orelay : Int), .slice O3 on3 oc3] 53)
          have hOg : RowKit.Hid (g ≠ OX) := Lib.hid (by have := HO2.out.lt; omega)
          have p0 := HPa.out.cell 0
          have p1 := HPa.out.cell 1
          have p2 := HPa.out.cell 2
          have p3 := HPa.out.cell 3
          have g0 := HHa.out.cell 0
          have g1 := HHa.out.cell 1
          have g2 := HHa.out.cell 2
          have g3 := HHa.out.cell 3
          have g4 := HHa.out.cell 4
          have g5 := HHa.out.cell 5
          have g6 := HHa.out.cell 6
          have g7 := HHa.out.cell 7
          have g8 := HHa.out.cell 8
          have g9 := HHa.out.cell 9
          have g10 := HHa.out.cell 10
          have g11 := HHa.out.cell 11
          have g12 := HHa.out.cell 12
          have o0 := HOa.out.cell 0
          have o1 := HOa.out.cell 1
          have o2 := HOa.out.cell 2
          have o3 := HOa.out.cell 3
          have o4 := HOa.out.cell 4
          have o5 := HOa.out.cell 5
          have o6 := HOa.out.cell 6
          have o7 := HOa.out.cell 7
          simp at p0 p1 p2 p3 g0 g1 g2 g3 g4 g5 g6 g7 g8 g9 g10 g11 g12 o0 o1 o2 o3 o4 o5 o6 o7
          have P0 := HPc.out.cell 0
          have P1 := HPc.out.cell 1
          have P2 := HPc.out.cell 2
          have P3 := HPc.out.cell 3
          have G0 := HHc.out.cell 0
          have G1 := HHc.out.cell 1
          have G2 := HHc.out.cell 2
          have G3 := HHc.out.cell 3
          have G4 := HHc.out.cell 4
          have G5 := HHc.out.cell 5
          have G6 := HHc.out.cell 6
          have G7 := HHc.out.cell 7
          have G8 := HHc.out.cell 8
          have G9 := HHc.out.cell 9
          have G10 := HHc.out.cell 10
          have G11 := HHc.out.cell 11
          have G12 := HHc.out.cell 12
          have Q0 := HOcc.out.cell 0
          have Q1 := HOcc.out.cell 1
          have Q2 := HOcc.out.cell 2
          have Q3 := HOcc.out.cell 3
          have Q4 := HOcc.out.cell 4
          have Q5 := HOcc.out.cell 5
          have Q6 := HOcc.out.cell 6
          have Q7 := HOcc.out.cell 7
          simp at P0 P1 P2 P3 G0 G1 G2 G3 G4 G5 G6 G7 G8 G9 G10 G11 G12 Q0 Q1 Q2 Q3 Q4 Q5 Q6 Q7
          cases D with
          | true =>
            refine wp_region_E 12 (fun w' => w'.cell? ⟨P, 0, none⟩ = some (.slice Ag NG cg) ∧ w'.cell? ⟨P, 1, none⟩ = some (.slice At NT ct) ∧ w'.cell? ⟨P, 2, none⟩ = some (.slice Ah NH ch) ∧ w'.cell? ⟨P, 3, none⟩ = some (.slice Aa NA ca) ∧ w'.cell? ⟨H, 0, none⟩ = some (.int .u8 (pr : Int)) ∧ w'.cell? ⟨H, 1, none⟩ = some (.bool sv) ∧ w'.cell? ⟨H, 2, none⟩ = some (.int .u64 (sh : Int)) ∧ w'.cell? ⟨H, 3, none⟩ = some (.int .u64 (sl : Int)) ∧ w'.cell? ⟨H, 4, none⟩ = some (.bool dv) ∧ w'.cell? ⟨H, 5, none⟩ = some (.int .u64 (dh : Int)) ∧ w'.cell? ⟨H, 6, none⟩ = some (.int .u64 (dl : Int)) ∧ w'.cell? ⟨H, 7, none⟩ = some (.int .u16 (fs : Int)) ∧ w'.cell? ⟨H, 8, none⟩ = some (.int .u16 (ft : Int)) ∧ w'.cell? ⟨H, 9, none⟩ = some (.int .u8 (h1 : Int)) ∧ w'.cell? ⟨H, 10, none⟩ = some (.int .u8 (h2 : Int)) ∧ w'.cell? ⟨H, 11, none⟩ = some (.int .u8 (h3 : Int)) ∧ w'.cell? ⟨H, 12, none⟩ = some (.int .i64 h4) ∧ w'.cell? ⟨OX, 0, none⟩ = some (.string okey) ∧ w'.cell? ⟨OX, 1, none⟩ = some (.string odisco) ∧ w'.cell? ⟨OX, 2, none⟩ = some (.string ous) ∧ w'.cell? ⟨OX, 3, none⟩ = some (.slice O1 on1 oc1) ∧ w'.cell? ⟨OX, 4, none⟩ = some (.slice O2 OL oc2) ∧ w'.cell? ⟨OX, 5, none⟩ = some (.int .u64 (oex : Int)) ∧ w'.cell? ⟨OX, 6, none⟩ = some (.int .u8 (orelay : Int)) ∧ w'.cell? ⟨OX, 7, none⟩ = some (.slice O3 on3 oc3)) (by kernel_rfl) (⟨p0, p1, p2, p3, g0, g1, g2, g3, g4, g5, g6, g7, g8, g9, g10, g11, g12, o0, o1, o2, o3, o4, o5, o6, o7⟩) (fun hHeld => ?_)
            refine' wpAnyE_take (i := 0) (v := _) rfl (by kernel_rfl) (by kernel_rfl) (by kernel_rfl) (fun _ _ _ h => h) (Or.inl ⟨by rfl, ?ly27⟩) (by assumption) (by kernel_rfl) ?lrest27
            case ly27 =>
              intro w hSw
              try dsimp only at hSw
              go_simp
              try with_reducible rfl
            try simp only [Act.put, List.setIfInBounds_toArray, List.set_cons_zero, List.set_cons_succ, List.getElem_toArray, List.getElem_cons_zero, List.getElem_cons_succ]
            refine' wpAnyE_take (i := 1) (v := _) rfl (by kernel_rfl) (by kernel_rfl) (by kernel_rfl) (fun _ _ _ h => h) (Or.inl ⟨by rfl, ?ly28⟩) (by assumption) (by kernel_rfl) ?lrest28
            case ly28 =>
              intro w hSw
              try dsimp only at hSw
              go_simp
              try with_reducible rfl
            try simp only [Act.put, List.setIfInBounds_toArray, List.set_cons_zero, List.set_cons_succ, List.getElem_toArray, List.getElem_cons_zero, List.getElem_cons_succ]
            refine' wpAnyE_take (i := 2) (v := _) rfl (by kernel_rfl) (by kernel_rfl) (by kernel_rfl) (fun _ _ _ h => h) (Or.inl ⟨by rfl, ?ly29⟩) (by assumption) (by kernel_rfl) ?lrest29
            case ly29 =>
              intro w hSw
              try dsimp only at hSw
              go_simp
              try with_reducible rfl
            try simp only [Act.put, List.setIfInBounds_toArray, List.set_cons_zero, List.set_cons_succ, List.getElem_toArray, List.getElem_cons_zero, List.getElem_cons_succ]
            refine' wpAnyE_take (i := 5) (v := _) rfl (by kernel_rfl) (by kernel_rfl) (by kernel_rfl) (fun _ _ _ h => h) (Or.inl ⟨by rfl, ?ly30⟩) (by assumption) (by kernel_rfl) ?lrest30
            case ly30 =>
              intro w hSw
              try dsimp only at hSw
              go_simp
              try with_reducible rfl
            try simp only [Act.put, List.setIfInBounds_toArray, List.set_cons_zero, List.set_cons_succ, List.getElem_toArray, List.getElem_cons_zero, List.getElem_cons_succ]
            refine' wpAnyE_take (i := 7) (v := _) rfl (by kernel_rfl) (by kernel_rfl) (by kernel_rfl) (fun _ _ _ h => h) (Or.inl ⟨by rfl, ?ly31⟩) (by assumption) (by kernel_rfl) ?lrest31
            case ly31 =>
              intro w hSw
              try dsimp only at hSw
              go_simp
              try with_reducible rfl
            try simp only [Act.put, List.setIfInBounds_toArray, List.set_cons_zero, List.set_cons_succ, List.getElem_toArray, List.getElem_cons_zero, List.getElem_cons_succ]
            refine wpAnyE_ready (rs := [3]) (by kernel_rfl) (by simp) ?_
            refine AllReadyE.cons rfl (fun K hK => ?_) AllReadyE.nil
            go_simp
            skip
            refine hK.out _ _ (fun _ => ⟨P0, P1, P2, P3, G0, G1, G2, G3, G4, G5, G6, G7, G8, G9, G10, G11, G12, Q0, Q1, Q2, Q3, Q4, Q5, Q6, Q7⟩) (fun hHeld => ?_)
            have hHeld := hHeld (by decide)
            clear hK K
            try simp only [Act.put, List.setIfInBounds_toArray, List.set_cons_zero, List.set_cons_succ, List.getElem_toArray, List.getElem_cons_zero, List.getElem_cons_succ]
            refine wpAnyE_ready (rs := [4]) (by kernel_rfl) (by simp) ?_
            refine AllReadyE.cons rfl (fun K hK => ?_) AllReadyE.nil
            refine step_append_lies _ (by rfl) _ _ _ (by rfl) w2.heap.size 53 j0 (.agg #[.string ⟨#[]⟩, .string ⟨#[]⟩, .string ⟨#[]⟩, .slice none 0 0, .slice none 0 0, .int .u64 0, .int .u8 0, .slice none 0 0]) 8 136 Tryz.underlying27 hj hj0 hj1 hj2 rfl (by decide) _ NL _ (by rfl) howc.out ⟨wo3.drew.heap.size, 0, none⟩ 1 1 [.string okey, .string odisco, .string ous, .slice O1 on1 oc1, .slice O2 OL oc2, .int .u64 (oex : Int), .int .u8 (orelay : Int), .slice O3 on3 oc3] (by rfl) rfl HNew.out (by intro u hu; simp at hu; rcases hu with rfl | rfl | rfl | rfl | rfl | rfl | rfl | rfl <;> rfl) (by decide) (by unfold maxLen; omega) (by omega) (by have := hw2s.out; simp [World.drew]; omega) (wo3.heap.size + 1) (by simp [World.drew]) ?_
            intro g' cap' wz hown' hgrow hat hglt
            have HPz := Lib.hid (HPc.out.off (Keeps.row hgrow) (ownOff howc.out) (by decide))
            have HHz := Lib.hid (HHc.out.off (Keeps.row hgrow) (ownOff howc.out) (by decide))
            have HOz := Lib.hid (Blk.keep HOcc.out (Keeps.row hgrow) (fun e => hOg.out (by injection e)))
            have hbz2 := HBc.out.grown hgrow HBc.out.size (fun q hq => by have h1 := (howc.out.lt q hq).1; have h2 := HB2.out.size; omega)
            have HBz := Lib.hid hbz2
            have hrow : PeRd wz (.slice (some ⟨g', 0, none⟩) (NL + 1) cap') ((T ++ [O]).map (·.x)) := ⟨T ++ [O], rfl, by rw [List.length_append, HTl.out, peCells_snoc, HOc.out]; exact RowR.of_own hown', fun X hX => by rcases List.mem_append.1 hX with hX | hX; exact ((HPi.out X ((HMm.out X).1 hX)).below hbz2).mem; rw [List.mem_singleton.1 hX]; exact (HOi.out.below hbz2).mem⟩
            have hp3 := HPer.out wz hbz2 _ _ hrow (by rw [List.length_map, List.length_append, HTl.out]; simp; omega)
            rw [HMo.out] at hp3
            have HPer3 := Lib.hid hp3
            have z0 := HPz.out.cell 0
            have z1 := HPz.out.cell 1
            have z2 := HPz.out.cell 2
            have z3 := HPz.out.cell 3
            have zg0 := HHz.out.cell 0
            have zg1 := HHz.out.cell 1
            have zg2 := HHz.out.cell 2
            have zg3 := HHz.out.cell 3
            have zg4 := HHz.out.cell 4
            have zg5 := HHz.out.cell 5
            have zg6 := HHz.out.cell 6
            have zg7 := HHz.out.cell 7
            have zg8 := HHz.out.cell 8
            have zg9 := HHz.out.cell 9
            have zg10 := HHz.out.cell 10
            have zg11 := HHz.out.cell 11
            have zg12 := HHz.out.cell 12
            have zo0 := HOz.out.cell 0
            have zo1 := HOz.out.cell 1
            have zo2 := HOz.out.cell 2
            have zo3 := HOz.out.cell 3
            have zo4 := HOz.out.cell 4
            have zo5 := HOz.out.cell 5
            have zo6 := HOz.out.cell 6
            have zo7 := HOz.out.cell 7
            simp at z0 z1 z2 z3 zg0 zg1 zg2 zg3 zg4 zg5 zg6 zg7 zg8 zg9 zg10 zg11 zg12 zo0 zo1 zo2 zo3 zo4 zo5 zo6 zo7
            clear hown' hgrow hat hglt hrow hp3 hbz2
            refine hK.out _ _ (fun _ => ⟨z0, z1, z2, z3, zg0, zg1, zg2, zg3, zg4, zg5, zg6, zg7, zg8, zg9, zg10, zg11, zg12, zo0, zo1, zo2, zo3, zo4, zo5, zo6, zo7⟩) (fun hHeld => ?_)
            have hHeld := hHeld (by decide)
            clear hK K
            try simp only [Act.put, List.setIfInBounds_toArray, List.set_cons_zero, List.set_cons_succ, List.getElem_toArray, List.getElem_cons_zero, List.getElem_cons_succ]
            refine wpAnyE_ready (rs := [6]) (by kernel_rfl) (by simp) ?_
            refine AllReadyE.cons rfl (fun K hK => ?_) AllReadyE.nil
            go_simp
            refine HPer3.out.mono ?_
            rintro r wp ⟨rfl, dp⟩
            refine hK.out _ _ (fun _ => ⟨cellB z0 dp, cellB z1 dp, cellB z2 dp, cellB z3 dp, cellB zg0 dp, cellB zg1 dp, cellB zg2 dp, cellB zg3 dp, cellB zg4 dp, cellB zg5 dp, cellB zg6 dp, cellB zg7 dp, cellB zg8 dp, cellB zg9 dp, cellB zg10 dp, cellB zg11 dp, cellB zg12 dp, cellB zo0 dp, cellB zo1 dp, cellB zo2 dp, cellB zo3 dp, cellB zo4 dp, cellB zo5 dp, cellB zo6 dp, cellB zo7 dp⟩) (fun hHeld => ?_)
            have hHeld := hHeld (by decide)
            clear hK K
            try simp only [Act.put, List.setIfInBounds_toArray, List.set_cons_zero, List.set_cons_succ, List.getElem_toArray, List.getElem_cons_zero, List.getElem_cons_succ]
            refine' wpAnyE_take (i := 8) (v := _) rfl (by kernel_rfl) (by kernel_rfl) (by kernel_rfl) (fun _ _ _ h => h) (Or.inl ⟨by rfl, ?ly35⟩) (by assumption) (by kernel_rfl) ?lrest35
            case ly35 =>
              intro w hSw
              try dsimp only at hSw
              go_simp
              try with_reducible rfl
            try simp only [Act.put, List.setIfInBounds_toArray, List.set_cons_zero, List.set_cons_succ, List.getElem_toArray, List.getElem_cons_zero, List.getElem_cons_succ]
            refine' wpAnyE_take (i := 9) (v := _) rfl (by kernel_rfl) (by kernel_rfl) (by kernel_rfl) (fun _ _ _ h => h) (Or.inl ⟨by rfl, ?ly36⟩) (by assumption) (by kernel_rfl) ?lrest36
            case ly36 =>
              intro w hSw
              try dsimp only at hSw
              go_simp
              try with_reducible rfl
            try simp only [Act.put, List.setIfInBounds_toArray, List.set_cons_zero, List.set_cons_succ, List.getElem_toArray, List.getElem_cons_zero, List.getElem_cons_succ]
            refine wpAnyE_ready (rs := [10]) (by kernel_rfl) (by simp) ?_
            refine AllReadyE.cons rfl (fun K hK => ?_) AllReadyE.nil
            go_simp
            refine (HWk.out _ (after HBz.out dp)).mono ?_
            rintro r wq ⟨rfl, dq⟩
            have dpq := after dp dq
            refine hK.out _ _ (fun _ => ⟨cellB z0 dpq, cellB z1 dpq, cellB z2 dpq, cellB z3 dpq, cellB zg0 dpq, cellB zg1 dpq, cellB zg2 dpq, cellB zg3 dpq, cellB zg4 dpq, cellB zg5 dpq, cellB zg6 dpq, cellB zg7 dpq, cellB zg8 dpq, cellB zg9 dpq, cellB zg10 dpq, cellB zg11 dpq, cellB zg12 dpq, cellB zo0 dpq, cellB zo1 dpq, cellB zo2 dpq, cellB zo3 dpq, cellB zo4 dpq, cellB zo5 dpq, cellB zo6 dpq, cellB zo7 dpq⟩) (fun hHeld => ?_)
            have hHeld := hHeld (by decide)
            clear hK K
            try simp only [Act.put, List.setIfInBounds_toArray, List.set_cons_zero, List.set_cons_succ, List.getElem_toArray, List.getElem_cons_zero, List.getElem_cons_succ]
            refine' wpAnyE_take (i := 11) (v := _) rfl (by kernel_rfl) (by kernel_rfl) (by kernel_rfl) (fun _ _ _ h => h) (Or.inl ⟨by rfl, ?ly38⟩) (by assumption) (by kernel_rfl) ?lrest38
            case ly38 =>
              intro w hSw
              try dsimp only at hSw
              go_simp
              try with_reducible rfl
            try simp only [Act.put, List.setIfInBounds_toArray, List.set_cons_zero, List.set_cons_succ, List.getElem_toArray, List.getElem_cons_zero, List.getElem_cons_succ]
            refine wpAnyE_ready (rs := [12]) (by kernel_rfl) (by simp) ?_
            refine AllReadyE.cons rfl (fun K hK => ?_) AllReadyE.nil
            go_simp
            refine hK.out _ _ (fun h => absurd rfl h) (fun _ => ?_)
            clear hK K hHeld
            try simp only [Act.put, List.setIfInBounds_toArray, List.set_cons_zero, List.set_cons_succ, List.getElem_toArray, List.getElem_cons_zero, List.getElem_cons_succ]
            refine wpAnyE_done (by kernel_rfl) ?_
            go_wp2_with fail
            go_ret
            exact ⟨by first | rfl | simp, after HBz.out dpq⟩
          | false =>
            refine wp_region_E 12 (fun w' => w'.cell? ⟨P, 0, none⟩ = some (.slice Ag NG cg) ∧ w'.cell? ⟨P, 1, none⟩ = some (.slice At NT ct) ∧ w'.cell? ⟨P, 2, none⟩ = some (.slice Ah NH ch) ∧ w'.cell? ⟨P, 3, none⟩ = some (.slice Aa NA ca) ∧ w'.cell? ⟨H, 0, none⟩ = some (.int .u8 (pr : Int)) ∧ w'.cell? ⟨H, 1, none⟩ = some (.bool sv) ∧ w'.cell? ⟨H, 2, none⟩ = some (.int .u64 (sh : Int)) ∧ w'.cell? ⟨H, 3, none⟩ = some (.int .u64 (sl : Int)) ∧ w'.cell? ⟨H, 4, none⟩ = some (.bool dv) ∧ w'.cell? ⟨H, 5, none⟩ = some (.int .u64 (dh : Int)) ∧ w'.cell? ⟨H, 6, none⟩ = some (.int .u64 (dl : Int)) ∧ w'.cell? ⟨H, 7, none⟩ = some (.int .u16 (fs : Int)) ∧ w'.cell? ⟨H, 8, none⟩ = some (.int .u16 (ft : Int)) ∧ w'.cell? ⟨H, 9, none⟩ = some (.int .u8 (h1 : Int)) ∧ w'.cell? ⟨H, 10, none⟩ = some (.int .u8 (h2 : Int)) ∧ w'.cell? ⟨H, 11, none⟩ = some (.int .u8 (h3 : Int)) ∧ w'.cell? ⟨H, 12, none⟩ = some (.int .i64 h4) ∧ w'.cell? ⟨OX, 0, none⟩ = some (.string okey) ∧ w'.cell? ⟨OX, 1, none⟩ = some (.string odisco) ∧ w'.cell? ⟨OX, 2, none⟩ = some (.string ous) ∧ w'.cell? ⟨OX, 3, none⟩ = some (.slice O1 on1 oc1) ∧ w'.cell? ⟨OX, 4, none⟩ = some (.slice O2 OL oc2) ∧ w'.cell? ⟨OX, 5, none⟩ = some (.int .u64 (oex : Int)) ∧ w'.cell? ⟨OX, 6, none⟩ = some (.int .u8 (orelay : Int)) ∧ w'.cell? ⟨OX, 7, none⟩ = some (.slice O3 on3 oc3)) (by kernel_rfl) (⟨p0, p1, p2, p3, g0, g1, g2, g3, g4, g5, g6, g7, g8, g9, g10, g11, g12, o0, o1, o2, o3, o4, o5, o6, o7⟩) (fun hHeld => ?_)
            refine' wpAnyE_take (i := 0) (v := _) rfl (by kernel_rfl) (by kernel_rfl) (by kernel_rfl) (fun _ _ _ h => h) (Or.inl ⟨by rfl, ?ly40⟩) (by assumption) (by kernel_rfl) ?lrest40
            case ly40 =>
              intro w hSw
              try dsimp only at hSw
              go_simp
              try with_reducible rfl
            try simp only [Act.put, List.setIfInBounds_toArray, List.set_cons_zero, List.set_cons_succ, List.getElem_toArray, List.getElem_cons_zero, List.getElem_cons_succ]
            refine' wpAnyE_take (i := 1) (v := _) rfl (by kernel_rfl) (by kernel_rfl) (by kernel_rfl) (fun _ _ _ h => h) (Or.inl ⟨by rfl, ?ly41⟩) (by assumption) (by kernel_rfl) ?lrest41
            case ly41 =>
              intro w hSw
              try dsimp only at hSw
              go_simp
              try with_reducible rfl
            try simp only [Act.put, List.setIfInBounds_toArray, List.set_cons_zero, List.set_cons_succ, List.getElem_toArray, List.getElem_cons_zero, List.getElem_cons_succ]
            refine' wpAnyE_take (i := 2) (v := _) rfl (by kernel_rfl) (by kernel_rfl) (by kernel_rfl) (fun _ _ _ h => h) (Or.inl ⟨by rfl, ?ly42⟩) (by assumption) (by kernel_rfl) ?lrest42
            case ly42 =>
              intro w hSw
              try dsimp only at hSw
              go_simp
              try with_reducible rfl
            try simp only [Act.put, List.setIfInBounds_toArray, List.set_cons_zero, List.set_cons_succ, List.getElem_toArray, List.getElem_cons_zero, List.getElem_cons_succ]
            refine' wpAnyE_take (i := 5) (v := _) rfl (by kernel_rfl) (by kernel_rfl) (by kernel_rfl) (fun _ _ _ h => h) (Or.inl ⟨by rfl, ?ly43⟩) (by assumption) (by kernel_rfl) ?lrest43
            case ly43 =>
              intro w hSw
              try dsimp only at hSw
              go_simp
              try with_reducible rfl
            try simp only [Act.put, List.setIfInBounds_toArray, List.set_cons_zero, List.set_cons_succ, List.getElem_toArray, List.getElem_cons_zero, List.getElem_cons_succ]
            refine' wpAnyE_take (i := 7) (v := _) rfl (by kernel_rfl) (by kernel_rfl) (by kernel_rfl) (fun _ _ _ h => h) (Or.inl ⟨by rfl, ?ly44⟩) (by assumption) (by kernel_rfl) ?lrest44
            case ly44 =>
              intro w hSw
              try dsimp only at hSw
              go_simp
              try with_reducible rfl
            try simp only [Act.put, List.setIfInBounds_toArray, List.set_cons_zero, List.set_cons_succ, List.getElem_toArray, List.getElem_cons_zero, List.getElem_cons_succ]
            refine wpAnyE_ready (rs := [3]) (by kernel_rfl) (by simp) ?_
            refine AllReadyE.cons rfl (fun K hK => ?_) AllReadyE.nil
            go_simp
            skip
            refine hK.out _ _ (fun _ => ⟨P0, P1, P2, P3, G0, G1, G2, G3, G4, G5, G6, G7, G8, G9, G10, G11, G12, Q0, Q1, Q2, Q3, Q4, Q5, Q6, Q7⟩) (fun hHeld => ?_)
            have hHeld := hHeld (by decide)
            clear hK K
            try simp only [Act.put, List.setIfInBounds_toArray, List.set_cons_zero, List.set_cons_succ, List.getElem_toArray, List.getElem_cons_zero, List.getElem_cons_succ]
            refine wpAnyE_ready (rs := [4]) (by kernel_rfl) (by simp) ?_
            refine AllReadyE.cons rfl (fun K hK => ?_) AllReadyE.nil
            refine step_append_lies _ (by rfl) _ _ _ (by rfl) w2.heap.size 53 j0 (.agg #[.string ⟨#[]⟩, .string ⟨#[]⟩, .string ⟨#[]⟩, .slice none 0 0, .slice none 0 0, .int .u64 0, .int .u8 0, .slice none 0 0]) 8 136 Tryz.underlying27 hj hj0 hj1 hj2 rfl (by decide) _ NL _ (by rfl) howc.out ⟨wo3.drew.heap.size, 0, none⟩ 1 1 [.string okey, .string odisco, .string ous, .slice O1 on1 oc1, .slice O2 OL oc2, .int .u64 (oex : Int), .int .u8 (orelay : Int), .slice O3 on3 oc3] (by rfl) rfl HNew.out (by intro u hu; simp at hu; rcases hu with rfl | rfl | rfl | rfl | rfl | rfl | rfl | rfl <;> rfl) (by decide) (by unfold maxLen; omega) (by omega) (by have := hw2s.out; simp [World.drew]; omega) (wo3.heap.size + 1) (by simp [World.drew]) ?_
            intro g' cap' wz hown' hgrow hat hglt
            have HPz := Lib.hid (HPc.out.off (Keeps.row hgrow) (ownOff howc.out) (by decide))
            have HHz := Lib.hid (HHc.out.off (Keeps.row hgrow) (ownOff howc.out) (by decide))
            have HOz := Lib.hid (Blk.keep HOcc.out (Keeps.row hgrow) (fun e => hOg.out (by injection e)))
            have hbz2 := HBc.out.grown hgrow HBc.out.size (fun q hq => by have h1 := (howc.out.lt q hq).1; have h2 := HB2.out.size; omega)
            have HBz := Lib.hid hbz2
            have hrow : PeRd wz (.slice (some ⟨g', 0, none⟩) (NL + 1) cap') ((T ++ [O]).map (·.x)) := ⟨T ++ [O], rfl, by rw [List.length_append, HTl.out, peCells_snoc, HOc.out]; exact RowR.of_own hown', fun X hX => by rcases List.mem_append.1 hX with hX | hX; exact ((HPi.out X ((HMm.out X).1 hX)).below hbz2).mem; rw [List.mem_singleton.1 hX]; exact (HOi.out.below hbz2).mem⟩
            have hp3 := HPer.out wz hbz2 _ _ hrow (by rw [List.length_map, List.length_append, HTl.out]; simp; omega)
            rw [HMo.out] at hp3
            have HPer3 := Lib.hid hp3
            have z0 := HPz.out.cell 0
            have z1 := HPz.out.cell 1
            have z2 := HPz.out.cell 2
            have z3 := HPz.out.cell 3
            have zg0 := HHz.out.cell 0
            have zg1 := HHz.out.cell 1
            have zg2 := HHz.out.cell 2
            have zg3 := HHz.out.cell 3
            have zg4 := HHz.out.cell 4
            have zg5 := HHz.out.cell 5
            have zg6 := HHz.out.cell 6
            have zg7 := HHz.out.cell 7
            have zg8 := HHz.out.cell 8
            have zg9 := HHz.out.cell 9
            have zg10 := HHz.out.cell 10
            have zg11 := HHz.out.cell 11
            have zg12 := HHz.out.cell 12
            have zo0 := HOz.out.cell 0
            have zo1 := HOz.out.cell 1
            have zo2 := HOz.out.cell 2
            have zo3 := HOz.out.cell 3
            have zo4 := HOz.out.cell 4
            have zo5 := HOz.out.cell 5
            have zo6 := HOz.out.cell 6
            have zo7 := HOz.out.cell 7
            simp at z0 z1 z2 z3 zg0 zg1 zg2 zg3 zg4 zg5 zg6 zg7 zg8 zg9 zg10 zg11 zg12 zo0 zo1 zo2 zo3 zo4 zo5 zo6 zo7
            clear hown' hgrow hat hglt hrow hp3 hbz2
            refine hK.out _ _ (fun _ => ⟨z0, z1, z2, z3, zg0, zg1, zg2, zg3, zg4, zg5, zg6, zg7, zg8, zg9, zg10, zg11, zg12, zo0, zo1, zo2, zo3, zo4, zo5, zo6, zo7⟩) (fun hHeld => ?_)
            have hHeld := hHeld (by decide)
            clear hK K
            try simp only [Act.put, List.setIfInBounds_toArray, List.set_cons_zero, List.set_cons_succ, List.getElem_toArray, List.getElem_cons_zero, List.getElem_cons_succ]
            refine wpAnyE_ready (rs := [6]) (by kernel_rfl) (by simp) ?_
            refine AllReadyE.cons rfl (fun K hK => ?_) AllReadyE.nil
            go_simp
            refine HPer3.out.mono ?_
            rintro r wp ⟨rfl, dp⟩
            refine hK.out _ _ (fun _ => ⟨cellB z0 dp, cellB z1 dp, cellB z2 dp, cellB z3 dp, cellB zg0 dp, cellB zg1 dp, cellB zg2 dp, cellB zg3 dp, cellB zg4 dp, cellB zg5 dp, cellB zg6 dp, cellB zg7 dp, cellB zg8 dp, cellB zg9 dp, cellB zg10 dp, cellB zg11 dp, cellB zg12 dp, cellB zo0 dp, cellB zo1 dp, cellB zo2 dp, cellB zo3 dp, cellB zo4 dp, cellB zo5 dp, cellB zo6 dp, cellB zo7 dp⟩) (fun hHeld => ?_)
            have hHeld := hHeld (by decide)
            clear hK K
            try simp only [Act.put, List.setIfInBounds_toArray, List.set_cons_zero, List.set_cons_succ, List.getElem_toArray, List.getElem_cons_zero, List.getElem_cons_succ]
            refine' wpAnyE_take (i := 8) (v := _) rfl (by kernel_rfl) (by kernel_rfl) (by kernel_rfl) (fun _ _ _ h => h) (Or.inl ⟨by rfl, ?ly48⟩) (by assumption) (by kernel_rfl) ?lrest48
            case ly48 =>
              intro w hSw
              try dsimp only at hSw
              go_simp
              try with_reducible rfl
            try simp only [Act.put, List.setIfInBounds_toArray, List.set_cons_zero, List.set_cons_succ, List.getElem_toArray, List.getElem_cons_zero, List.getElem_cons_succ]
            refine' wpAnyE_take (i := 9) (v := _) rfl (by kernel_rfl) (by kernel_rfl) (by kernel_rfl) (fun _ _ _ h => h) (Or.inl ⟨by rfl, ?ly49⟩) (by assumption) (by kernel_rfl) ?lrest49
            case ly49 =>
              intro w hSw
              try dsimp only at hSw
              go_simp
              try with_reducible rfl
            try simp only [Act.put, List.setIfInBounds_toArray, List.set_cons_zero, List.set_cons_succ, List.getElem_toArray, List.getElem_cons_zero, List.getElem_cons_succ]
            refine wpAnyE_ready (rs := [10]) (by kernel_rfl) (by simp) ?_
            refine AllReadyE.cons rfl (fun K hK => ?_) AllReadyE.nil
            go_simp
            refine (HWk.out _ (after HBz.out dp)).mono ?_
            rintro r wq ⟨rfl, dq⟩
            have dpq := after dp dq
            refine hK.out _ _ (fun _ => ⟨cellB z0 dpq, cellB z1 dpq, cellB z2 dpq, cellB z3 dpq, cellB zg0 dpq, cellB zg1 dpq, cellB zg2 dpq, cellB zg3 dpq, cellB zg4 dpq, cellB zg5 dpq, cellB zg6 dpq, cellB zg7 dpq, cellB zg8 dpq, cellB zg9 dpq, cellB zg10 dpq, cellB zg11 dpq, cellB zg12 dpq, cellB zo0 dpq, cellB zo1 dpq, cellB zo2 dpq, cellB zo3 dpq, cellB zo4 dpq, cellB zo5 dpq, cellB zo6 dpq, cellB zo7 dpq⟩) (fun hHeld => ?_)
            have hHeld := hHeld (by decide)
            clear hK K
            try simp only [Act.put, List.setIfInBounds_toArray, List.set_cons_zero, List.set_cons_succ, List.getElem_toArray, List.getElem_cons_zero, List.getElem_cons_succ]
            refine' wpAnyE_take (i := 11) (v := _) rfl (by kernel_rfl) (by kernel_rfl) (by kernel_rfl) (fun _ _ _ h => h) (Or.inl ⟨by rfl, ?ly51⟩) (by assumption) (by kernel_rfl) ?lrest51
            case ly51 =>
              intro w hSw
              try dsimp only at hSw
              go_simp
              try with_reducible rfl
            try simp only [Act.put, List.setIfInBounds_toArray, List.set_cons_zero, List.set_cons_succ, List.getElem_toArray, List.getElem_cons_zero, List.getElem_cons_succ]
            refine wpAnyE_ready (rs := [12]) (by kernel_rfl) (by simp) ?_
            refine AllReadyE.cons rfl (fun K hK => ?_) AllReadyE.nil
            go_simp
            refine hK.out _ _ (fun h => absurd rfl h) (fun _ => ?_)
            clear hK K hHeld
            try simp only [Act.put, List.setIfInBounds_toArray, List.set_cons_zero, List.set_cons_succ, List.getElem_toArray, List.getElem_cons_zero, List.getElem_cons_succ]
            refine wpAnyE_done (by kernel_rfl) ?_
            go_wp2_with fail
            go_ret
            exact ⟨by first | rfl | simp, after HBz.out dpq⟩
end Go.Proofs.YthglckoikjfjkaaGreatDoor
