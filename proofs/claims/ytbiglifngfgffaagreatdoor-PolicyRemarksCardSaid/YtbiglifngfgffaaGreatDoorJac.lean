/- Joined out of: PoE PoF PoG PlA PlB PuA Env. -/
import Derived.Test.YtbiglifngfgffaaGreatDoorJab
import Derived.Test.YtbiglifngfgffaaGreatDoorShelf
import Derived.Test.YtbiglifngfgffaaGreatDoorJaa
import Derived.Shelf.Strings.SlTrimAscii
import Derived.Shelf.Strings.FieldsFuncGrows
import Derived.Lib.MapLaws
import Derived.Lib.ParseIntB
import Derived.Test.YtbiglifngfgffaaGreatDoorProg
import Derived.Lib.LaidTab
import Derived.Lib.AppendIntMem
import Derived.Lib.ItoaNum
set_option linter.unusedVariables false
set_option linter.unusedSimpArgs false

/- Lines, back from their policy: the plain law. -/
namespace Go.Proofs.YtbiglifngfgffaaGreatDoor
open Go.RowKit

/- An accept that may stand. -/
structure AcOk (a : Ac) : Prop where
  rise : rising 0 a.protos = true
  protos : ∀ x ∈ a.protos, protoOk x = true
  src : ∀ s ∈ a.src, selP (ofL (selT s)) = some s
  dst : ∀ s ∈ a.dst, selP (ofL (selT s)) = some s
  src1 : 1 ≤ a.src.length
  src64 : a.src.length ≤ 64
  dst1 : 1 ≤ a.dst.length
  dst64 : a.dst.length ≤ 64
  ports : ∀ x ∈ a.ports, x.1 ≤ x.2 ∧ x.2 < 65536
  ports64 : a.ports.length ≤ 64
theorem aclT_eq (a : Ac) : (aclT a).map ofL = W_accept :: ofL (protosT a.protos) :: W_from :: (a.src.map (fun s => ofL (selT s)) ++ W_to :: (a.dst.map (fun s => ofL (selT s)) ++ if a.ports = [] then [] else W_ports :: a.ports.map fun x => ofL (portT x))) := by
  unfold aclT protosT
  simp only [List.map_append, List.map_cons, List.map_map, List.cons_append, List.nil_append, List.append_assoc]
  refine congr (congrArg List.cons (ofL_back _)) (congrArg _ (congr (congrArg List.cons (ofL_back _)) ?_))
  refine congrArg _ (congr (congrArg List.cons (ofL_back _)) (congrArg _ ?_))
  split
  · rfl
  · rw [List.map_cons, List.map_map, ofL_back]; rfl
theorem acceptP_back {a : Ac} {told : Nat} (h : AcOk a) (hl : told < 64) : ∃ L, acceptP ((aclT a).map ofL) told = .ok (a, L) ∧ ∀ y ∈ L, y.1 ∈ a.src ∨ y.1 ∈ a.dst := by
  rw [aclT_eq]
  obtain ⟨L1, e1, f1⟩ := selsGo_back selP_to (W_to :: (a.dst.map (fun s => ofL (selT s)) ++ if a.ports = [] then [] else W_ports :: a.ports.map fun x => ofL (portT x))) (Or.inr ⟨_, rfl⟩) a.src 3 0 h.src (by have := h.src64; omega) (by have := h.src1; omega)
  have ht : (if a.ports = [] then [] else W_ports :: a.ports.map fun x => ofL (portT x)) = [] ∨ ∃ r, (if a.ports = [] then [] else W_ports :: a.ports.map fun x => ofL (portT x)) = W_ports :: r := by
    split
    · exact Or.inl rfl
    · exact Or.inr ⟨_, rfl⟩
  have e2 := fun i => selsGo_back selP_ports _ ht a.dst i 0 h.dst (by have := h.dst64; omega) (by have := h.dst1; omega)
  unfold acceptP
  rw [if_neg (by omega)]
  simp only
  rw [protosP_back h.rise h.protos]
  simp only
  rw [if_neg (by simp), e1]
  simp only
  obtain ⟨L2, g1, g2⟩ := e2 _
  rw [g1]
  simp only
  have hm : ∀ y ∈ L1 ++ L2, y.1 ∈ a.src ∨ y.1 ∈ a.dst := by
    intro y hy
    rcases List.mem_append.1 hy with hy | hy
    · left; rw [← f1]; exact List.mem_map_of_mem hy
    · right; rw [← g2]; exact List.mem_map_of_mem hy
  by_cases hp : a.ports = []
  · simp only [hp, if_true]
    refine ⟨L1 ++ L2, ?_, hm⟩
    rw [f1, g2]
    obtain ⟨_, _, _, _⟩ := a
    simp only at hp
    rw [hp]
  · simp only [hp, if_false]
    refine ⟨L1 ++ L2, ?_, hm⟩
    rw [if_neg (by simpa using hp), portsGo_ok a.ports _ _ h.ports (by have := h.ports64; omega), f1, g2]
    rfl
/- The lines, one behind the other. -/
theorem distinct_mid {A B : List ByteArray} {x : ByteArray} (h : distinct (A ++ x :: B) = true) : x ∉ A := by
  induction A with
  | nil => simp
  | cons y r ih =>
    rw [List.cons_append, distinct] at h
    simp only [Bool.and_eq_true, Bool.not_eq_true', List.any_eq_false, decide_eq_true_eq] at h
    intro hm
    rcases List.mem_cons.1 hm with rfl | hm
    · exact h.1 x (by simp) rfl
    · exact ih h.2 hm
theorem hasN_false {l : List Nm} {s : ByteArray} (h : s ∉ l.map (·.name)) : hasN l s = false := by
  unfold hasN
  rw [List.any_eq_false]
  intro n hn
  rw [decide_eq_true_eq]
  intro e
  exact h (List.mem_map.2 ⟨n, hn, e⟩)
theorem hasH_false {l : List Hs} {s : ByteArray} (h : s ∉ l.map (·.name)) : hasH l s = false := by
  unfold hasH
  rw [List.any_eq_false]
  intro n hn
  rw [decide_eq_true_eq]
  intro e
  exact h (List.mem_map.2 ⟨n, hn, e⟩)
theorem nmT_map (w : ByteArray) (n : Nm) : (nmT w.data.toList n).map ofL = w :: n.name :: W_eq :: n.list := by
  unfold nmT
  simp only [List.cons_append, List.nil_append, List.map_cons, List.map_map]
  rw [ofL_back, ofL_back]
  refine congrArg _ (congrArg _ (congr (congrArg List.cons rfl) ?_))
  have : (ofL ∘ fun s : ByteArray => s.data.toList) = id := by funext s; exact ofL_back s
  rw [this, List.map_id]
theorem nm_words {w : List UInt8} {n : Nm} (hw : Word w) (h : NmOk n) : ∀ x ∈ nmT w n, Word x := by
  intro x hx
  unfold nmT at hx
  rcases List.mem_append.1 hx with hx | hx
  · simp only [List.mem_cons, List.not_mem_nil, or_false] at hx
    rcases hx with rfl | rfl | rfl
    · exact hw
    · exact label_word h.name
    · exact word_solid (by decide) (by decide)
  · obtain ⟨s, hs, rfl⟩ := List.mem_map.1 hx
    exact label_word (h.all s hs)
theorem w_group : Word W_group.data.toList := word_solid (by decide) (by decide)
theorem w_tag : Word W_tag.data.toList := word_solid (by decide) (by decide)
theorem w_host : Word W_host.data.toList := word_solid (by decide) (by decide)
theorem lines_groups : ∀ (l : List Nm) (n : Nat) (g0 t : List Nm) (h : List Hs) (a : List Ac) (u : List (Sel × Nat × Nat)) (rest : List (List UInt8)), (∀ x ∈ l, NmOk x) → (g0 ++ l).length ≤ 64 → distinct ((g0 ++ l).map (·.name)) = true →
    linesP (l.map (fun x => Lib.join (nmT W_group.data.toList x) [32]) ++ rest) n ⟨⟨g0, t, h, a⟩, u⟩ = linesP rest (n + l.length) ⟨⟨g0 ++ l, t, h, a⟩, u⟩ := by
  intro l
  induction l with
  | nil => intro n g0 t h a u rest _ _ _; simp
  | cons x r ih =>
    intro n g0 t h a u rest hk hl hd
    have hx := hk x (List.mem_cons_self ..)
    rw [List.length_append, List.length_cons] at hl
    have hnot : x.name ∉ g0.map (·.name) := by
      rw [List.map_append, List.map_cons] at hd
      exact distinct_mid hd
    rw [List.map_cons, List.cons_append, linesP, words_join (nm_words w_group hx), nmT_map]
    unfold lineP
    simp only
    rw [if_pos trivial, namedP_back W_group hx (by omega) (hasN_false hnot)]
    show linesP _ (n + 1) ⟨⟨g0 ++ [x], t, h, a⟩, u⟩ = _
    rw [ih (n + 1) (g0 ++ [x]) t h a u rest (fun y hy => hk y (List.mem_cons_of_mem _ hy)) (by simp; omega) (by simpa using hd)]
    rw [List.append_assoc, List.singleton_append, List.length_cons, show n + 1 + r.length = n + (r.length + 1) by omega]
theorem lines_tags : ∀ (l : List Nm) (n : Nat) (g0 t : List Nm) (h : List Hs) (a : List Ac) (u : List (Sel × Nat × Nat)) (rest : List (List UInt8)), (∀ x ∈ l, NmOk x) → (g0 ++ l).length ≤ 64 → distinct ((g0 ++ l).map (·.name)) = true →
    linesP (l.map (fun x => Lib.join (nmT W_tag.data.toList x) [32]) ++ rest) n ⟨⟨t, g0, h, a⟩, u⟩ = linesP rest (n + l.length) ⟨⟨t, g0 ++ l, h, a⟩, u⟩ := by
  intro l
  induction l with
  | nil => intro n g0 t h a u rest _ _ _; simp
  | cons x r ih =>
    intro n g0 t h a u rest hk hl hd
    have hx := hk x (List.mem_cons_self ..)
    rw [List.length_append, List.length_cons] at hl
    have hnot : x.name ∉ g0.map (·.name) := by
      rw [List.map_append, List.map_cons] at hd
      exact distinct_mid hd
    rw [List.map_cons, List.cons_append, linesP, words_join (nm_words w_tag hx), nmT_map]
    unfold lineP
    simp only
    rw [if_neg (by decide), if_pos trivial, namedP_back W_tag hx (by omega) (hasN_false hnot)]
    show linesP _ (n + 1) ⟨⟨t, g0 ++ [x], h, a⟩, u⟩ = _
    rw [ih (n + 1) (g0 ++ [x]) t h a u rest (fun y hy => hk y (List.mem_cons_of_mem _ hy)) (by simp; omega) (by simpa using hd)]
    rw [List.append_assoc, List.singleton_append, List.length_cons, show n + 1 + r.length = n + (r.length + 1) by omega]
structure HsOk (x : Hs) : Prop where
  name : labelB x.name = true
  may : pmay x.net = true
  ok : x.net.Ok
theorem hs_words {x : Hs} (h : HsOk x) : ∀ w ∈ hsT x, Word w := by
  intro w hw
  unfold hsT at hw
  simp only [List.mem_cons, List.not_mem_nil, or_false] at hw
  rcases hw with rfl | rfl | rfl | rfl
  · exact w_host
  · exact label_word h.name
  · exact word_solid (by decide) (by decide)
  · exact ptext_word h.may
theorem hsT_map (x : Hs) : (hsT x).map ofL = [W_host, x.name, W_eq, ofL (ptext x.net)] := by
  unfold hsT
  simp only [List.map_cons, List.map_nil]
  rw [ofL_back, ofL_back]
  rfl
theorem lines_hosts : ∀ (l : List Hs) (n : Nat) (h0 : List Hs) (g t : List Nm) (a : List Ac) (u : List (Sel × Nat × Nat)) (rest : List (List UInt8)), (∀ x ∈ l, HsOk x) → (h0 ++ l).length ≤ 64 → distinct ((h0 ++ l).map (·.name)) = true →
    linesP (l.map (fun x => Lib.join (hsT x) [32]) ++ rest) n ⟨⟨g, t, h0, a⟩, u⟩ = linesP rest (n + l.length) ⟨⟨g, t, h0 ++ l, a⟩, u⟩ := by
  intro l
  induction l with
  | nil => intro n h0 g t a u rest _ _ _; simp
  | cons x r ih =>
    intro n h0 g t a u rest hk hl hd
    have hx := hk x (List.mem_cons_self ..)
    rw [List.length_append, List.length_cons] at hl
    have hnot : x.name ∉ h0.map (·.name) := by
      rw [List.map_append, List.map_cons] at hd
      exact distinct_mid hd
    rw [List.map_cons, List.cons_append, linesP, words_join (hs_words hx), hsT_map]
    unfold lineP
    simp only
    rw [if_neg (by decide), if_neg (by decide), if_pos trivial, hostP_back W_host hx.name hx.ok hx.may (by omega) (hasH_false hnot)]
    show linesP _ (n + 1) ⟨⟨g, t, h0 ++ [x], a⟩, u⟩ = _
    rw [ih (n + 1) (h0 ++ [x]) g t a u rest (fun y hy => hk y (List.mem_cons_of_mem _ hy)) (by simp; omega) (by simpa using hd)]
    rw [List.append_assoc, List.singleton_append, List.length_cons, show n + 1 + r.length = n + (r.length + 1) by omega]
theorem ac_words {a : Ac} (h : AcOk a) : ∀ w ∈ aclT a, Word w := by
  intro w hw
  have e : aclT a = W_accept.data.toList :: protosT a.protos :: W_from.data.toList :: (a.src.map selT ++ W_to.data.toList :: (a.dst.map selT ++ if a.ports = [] then [] else W_ports.data.toList :: a.ports.map portT)) := by
    unfold aclT protosT
    simp
  rw [e] at hw
  simp only [List.mem_cons, List.mem_append] at hw
  rcases hw with rfl | rfl | rfl | hw | rfl | hw | hw
  · exact word_solid (by decide) (by decide)
  · exact protos_word h.protos
  · exact word_solid (by decide) (by decide)
  · obtain ⟨s, hs, rfl⟩ := List.mem_map.1 hw
    exact sel_word (h.src s hs)
  · exact word_solid (by decide) (by decide)
  · obtain ⟨s, hs, rfl⟩ := List.mem_map.1 hw
    exact sel_word (h.dst s hs)
  · split at hw
    · cases hw
    · rcases List.mem_cons.1 hw with rfl | hw
      · exact word_solid (by decide) (by decide)
      · obtain ⟨x, _, rfl⟩ := List.mem_map.1 hw
        exact port_word x
theorem lines_acls : ∀ (l : List Ac) (n : Nat) (a0 : List Ac) (g t : List Nm) (h : List Hs) (u : List (Sel × Nat × Nat)) (rest : List (List UInt8)), (∀ x ∈ l, AcOk x) → (a0 ++ l).length ≤ 64 →
    ∃ u', linesP (l.map (fun x => Lib.join (aclT x) [32]) ++ rest) n ⟨⟨g, t, h, a0⟩, u⟩ = linesP rest (n + l.length) ⟨⟨g, t, h, a0 ++ l⟩, u ++ u'⟩ ∧ ∀ y ∈ u', ∃ x ∈ l, y.1 ∈ x.src ∨ y.1 ∈ x.dst := by
  intro l
  induction l with
  | nil => intro n a0 g t h u rest _ _; exact ⟨[], by simp, fun y hy => by cases hy⟩
  | cons x r ih =>
    intro n a0 g t h u rest hk hl
    have hx := hk x (List.mem_cons_self ..)
    rw [List.length_append, List.length_cons] at hl
    obtain ⟨L, e, hL⟩ := acceptP_back (told := a0.length) hx (by omega)
    obtain ⟨u', e', hu'⟩ := ih (n + 1) (a0 ++ [x]) g t h (u ++ L.map fun y => (y.1, n, y.2)) rest (fun y hy => hk y (List.mem_cons_of_mem _ hy)) (by simp; omega)
    refine ⟨(L.map fun y => (y.1, n, y.2)) ++ u', ?_, ?_⟩
    · rw [List.map_cons, List.cons_append, linesP, words_join (ac_words hx)]
      have hh : lineP ⟨⟨g, t, h, a0⟩, u⟩ n ((aclT x).map ofL) = .ok ⟨⟨g, t, h, a0 ++ [x]⟩, u ++ L.map fun y => (y.1, n, y.2)⟩ := by
        have ew := aclT_eq x
        rw [ew]
        unfold lineP
        simp only
        rw [if_neg (by decide), if_neg (by decide), if_neg (by decide), if_pos trivial, ← ew, e]
        rfl
      rw [hh]
      simp only
      rw [e', List.append_assoc, List.singleton_append, List.length_cons, show n + 1 + r.length = n + (r.length + 1) by omega, List.append_assoc]
    · intro y hy
      rcases List.mem_append.1 hy with hy | hy
      · obtain ⟨z, hz, rfl⟩ := List.mem_map.1 hy
        exact ⟨x, List.mem_cons_self .., hL z hz⟩
      · obtain ⟨z, hz, h2⟩ := hu' y hy
        exact ⟨z, List.mem_cons_of_mem _ hz, h2⟩
end Go.Proofs.YtbiglifngfgffaaGreatDoor

/- A policy that is written is read as itself: the plain law. -/
namespace Go.Proofs.YtbiglifngfgffaaGreatDoor
open Go.RowKit

theorem split_text : ∀ (L : List (List (List UInt8))), (∀ l ∈ L, ∀ w ∈ l, Word w) → split1 10 ((L.map lineT).flatten) = L.map (fun l => Lib.join l [32]) ++ [[]] := by
  intro L
  induction L with
  | nil => intro _; rfl
  | cons l r ih =>
    intro h
    rw [List.map_cons, List.flatten_cons]
    unfold lineT
    rw [List.append_assoc, List.singleton_append, split1_hit _ (join_no10 l (h l (List.mem_cons_self ..)))]
    have := ih fun x hx => h x (List.mem_cons_of_mem _ hx)
    unfold lineT at this
    rw [this]
    rfl
/- What a program's policy always keeps. -/
structure PoOk (p : Po) : Prop where
  hosts : ∀ h ∈ p.hosts, h.net.Ok
  ports : ∀ a ∈ p.acls, ∀ x ∈ a.ports, x.1 < 65536 ∧ x.2 < 65536
theorem mayNm_ok {l : List Nm} (h : mayNm l = true) : (∀ n ∈ l, NmOk n) ∧ l.length ≤ 64 ∧ distinct (l.map (·.name)) = true := by
  unfold mayNm at h
  simp only [Bool.and_eq_true, decide_eq_true_eq] at h
  obtain ⟨⟨h1, h2⟩, h3⟩ := h
  refine ⟨fun n hn => ?_, h2, h3⟩
  have := List.all_eq_true.1 h1 n hn
  simp only [Bool.and_eq_true, decide_eq_true_eq] at this
  exact ⟨this.1.1.1, this.1.1.2, this.1.2, fun s hs => List.all_eq_true.1 this.2 s hs⟩
theorem maySels_ok {p : Po} {l : List Sel} (h : maySels p l = true) : (∀ s ∈ l, selP (ofL (selT s)) = some s ∧ knownP p s = true) ∧ 1 ≤ l.length ∧ l.length ≤ 64 := by
  unfold maySels at h
  simp only [Bool.and_eq_true, decide_eq_true_eq] at h
  obtain ⟨⟨h1, h2⟩, h3⟩ := h
  refine ⟨fun s hs => ?_, h2, h3⟩
  have := List.all_eq_true.1 h1 s hs
  simpa only [Bool.and_eq_true, decide_eq_true_eq] using this
theorem mayAc_ok {p : Po} {a : Ac} (h : mayAc p a = true) (hp : ∀ x ∈ a.ports, x.1 < 65536 ∧ x.2 < 65536) : AcOk a ∧ ∀ s, s ∈ a.src ∨ s ∈ a.dst → knownP p s = true := by
  unfold mayAc at h
  simp only [Bool.and_eq_true, decide_eq_true_eq] at h
  obtain ⟨⟨⟨⟨⟨h1, h2⟩, h3⟩, h4⟩, h5⟩, h6⟩ := h
  obtain ⟨s1, s2, s3⟩ := maySels_ok h5
  obtain ⟨d1, d2, d3⟩ := maySels_ok h6
  refine ⟨⟨h3, fun x hx => List.all_eq_true.1 h2 x hx, fun s hs => (s1 s hs).1, fun s hs => (d1 s hs).1, s2, s3, d2, d3, fun x hx => ⟨of_decide_eq_true (List.all_eq_true.1 h1 x hx), (hp x hx).2⟩, h4⟩, ?_⟩
  rintro s (hs | hs)
  · exact (s1 s hs).2
  · exact (d1 s hs).2
theorem mayP_ok {p : Po} (h : mayP p = true) : mayNm p.groups = true ∧ mayNm p.tags = true ∧ p.hosts.length ≤ 64 ∧ p.acls.length ≤ 64 ∧ (∀ x ∈ p.hosts, labelB x.name = true ∧ pmay x.net = true) ∧ (∀ a ∈ p.acls, mayAc p a = true) ∧ distinct (p.hosts.map (·.name)) = true := by
  unfold mayP at h
  simp only [Bool.and_eq_true, decide_eq_true_eq] at h
  obtain ⟨⟨⟨⟨⟨⟨h1, h2⟩, h3⟩, h4⟩, h5⟩, h6⟩, h7⟩ := h
  refine ⟨h1, h2, h3, h4, fun x hx => ?_, fun a ha => List.all_eq_true.1 h6 a ha, h7⟩
  have := List.all_eq_true.1 h5 x hx
  simpa only [Bool.and_eq_true] using this
/- A POLICY THAT IS WRITTEN IS READ AS ITSELF. -/
theorem back_text {p : Po} (ok : PoOk p) (hm : mayP p = true) (hl : (textP p).length ≤ 8192) : parseP (textP p) = (p, (0, 0, 0)) := by
  obtain ⟨m1, m2, m3, m4, m5, m6, m7⟩ := mayP_ok hm
  obtain ⟨g1, g2, g3⟩ := mayNm_ok m1
  obtain ⟨t1, t2, t3⟩ := mayNm_ok m2
  have hh : ∀ x ∈ p.hosts, HsOk x := fun x hx => ⟨(m5 x hx).1, (m5 x hx).2, ok.hosts x hx⟩
  have ha : ∀ x ∈ p.acls, AcOk x := fun x hx => (mayAc_ok (m6 x hx) (ok.ports x hx)).1
  have hw : ∀ l ∈ linesT p, ∀ w ∈ l, Word w := by
    intro l hl
    unfold linesT at hl
    simp only [List.mem_append, List.mem_map] at hl
    rcases hl with ((⟨x, hx, rfl⟩ | ⟨x, hx, rfl⟩) | ⟨x, hx, rfl⟩) | ⟨x, hx, rfl⟩
    · exact nm_words w_group (g1 x hx)
    · exact nm_words w_tag (t1 x hx)
    · exact hs_words (hh x hx)
    · exact ac_words (ha x hx)
  have hs := split_text (linesT p) hw
  unfold parseP
  rw [if_neg (by omega), show split1 10 (textP p) = _ from hs]
  obtain ⟨g, t, h, a⟩ := p
  have e : (linesT ⟨g, t, h, a⟩).map (fun l => Lib.join l [32]) ++ [[]] = g.map (fun x => Lib.join (nmT W_group.data.toList x) [32]) ++ (t.map (fun x => Lib.join (nmT W_tag.data.toList x) [32]) ++ (h.map (fun x => Lib.join (hsT x) [32]) ++ (a.map (fun x => Lib.join (aclT x) [32]) ++ [[]]))) := by
    unfold linesT
    simp [List.map_append, List.map_map, Function.comp_def]
  rw [e]
  unfold Po.zero
  rw [lines_groups g 1 [] [] [] [] [] _ g1 (by simpa using g2) (by simpa using g3), List.nil_append, lines_tags t _ [] g [] [] [] _ t1 (by simpa using t2) (by simpa using t3), List.nil_append, lines_hosts h _ [] g t [] [] _ hh (by simpa using m3) (by simpa using m7), List.nil_append]
  obtain ⟨u, e2, hu⟩ := lines_acls a (1 + g.length + t.length + h.length) [] g t h [] [[]] ha (by simpa using m4)
  rw [e2, List.nil_append, List.nil_append]
  have e3 : ∀ n, linesP [[]] n ⟨⟨g, t, h, a⟩, u⟩ = .ok ⟨⟨g, t, h, a⟩, u⟩ := fun n => rfl
  rw [e3]
  simp only
  have hnone : u.find? (fun x => !knownP ⟨g, t, h, a⟩ x.1) = none := by
    rw [List.find?_eq_none]
    intro y hy
    obtain ⟨x, hx, h2⟩ := hu y hy
    rw [(mayAc_ok (m6 x hx) (ok.ports x hx)).2 _ h2]
    decide
  rw [hnone]
end Go.Proofs.YtbiglifngfgffaaGreatDoor

/- A text that is read is a policy that may be: the plain law. -/
namespace Go.Proofs.YtbiglifngfgffaaGreatDoor
open Go.RowKit

theorem map_ok {α β ε : Type} {f : α → β} {x : Except ε α} {y : β} (h : x.map f = .ok y) : ∃ v, x = .ok v ∧ f v = y := by
  cases x with
  | error e => cases h
  | ok v => injection h with h; exact ⟨v, rfl, h⟩
theorem map_err {α β ε : Type} {f : α → β} {x : Except ε α} {e : ε} (h : x.map f = .error e) : x = .error e := by
  cases x with
  | error e' => injection h with h; rw [h]
  | ok v => cases h
/- What is read may be. -/
theorem namesGo_spec : ∀ (l : List ByteArray) (i c : Nat) (r : List ByteArray), namesGo l i c = .ok r → r = l ∧ (∀ s ∈ l, labelB s = true) ∧ (l ≠ [] → c + l.length ≤ 64) := by
  intro l
  induction l with
  | nil => intro i c r h; injection h with h; exact ⟨h.symm, fun s hs => (by cases hs), fun h => absurd rfl h⟩
  | cons s t ih =>
    intro i c r h
    rw [namesGo] at h
    split at h
    · cases h
    next h1 =>
    split at h
    · cases h
    next h2 =>
    cases hr : namesGo t (i + 1) (c + 1) with
    | error e => rw [hr] at h; cases h
    | ok q =>
      rw [hr] at h
      injection h with h
      obtain ⟨e1, e2, e3⟩ := ih _ _ _ hr
      subst e1
      refine ⟨h.symm, ?_, fun _ => ?_⟩
      · intro x hx
        rcases List.mem_cons.1 hx with rfl | hx
        · simpa using h1
        · exact e2 x hx
      · rw [List.length_cons]
        by_cases e : q = []
        · subst e; simp; omega
        · have := e3 e; omega
theorem namedP_spec {ws : List ByteArray} {told : List Nm} {n : Nm} (h : namedP ws told = .ok n) : NmOk n ∧ told.length < 64 ∧ hasN told n.name = false := by
  unfold namedP at h
  split at h
  · cases h
  next h0 =>
  split at h
  · next w nm r =>
    split at h
    · cases h
    next h1 =>
    split at h
    · cases h
    next h2 =>
    split at h
    · next e r' =>
      split at h
      · cases h
      next h3 =>
      split at h
      · cases h
      next h4 =>
      cases hr : namesGo r' 3 0 with
      | error e => rw [hr] at h; cases h
      | ok q =>
        rw [hr] at h
        injection h with h
        obtain ⟨e1, e2, e3⟩ := namesGo_spec _ _ _ _ hr
        subst e1 h
        have hl := e3 h4
        refine ⟨⟨by simpa using h1, ?_, by simpa using hl, e2⟩, by omega, by simpa using h2⟩
        cases q with
        | nil => exact absurd rfl h4
        | cons _ _ => simp
    · cases h
  · cases h
theorem hostP_spec {ws : List ByteArray} {told : List Hs} {x : Hs} (h : hostP ws told = .ok x) : HsOk x ∧ told.length < 64 ∧ hasH told x.name = false := by
  unfold hostP at h
  split at h
  · cases h
  next h0 =>
  split at h
  · next w nm r =>
    split at h
    · cases h
    next h1 =>
    split at h
    · cases h
    next h2 =>
    split at h
    · split at h
      · cases h
      · split at h
        · cases h
        · next t r'' =>
          split at h
          · cases h
          · next n hn =>
            split at h
            · cases h
            · injection h with h
              subst h
              obtain ⟨_, p2, p3⟩ := preadL_some hn
              exact ⟨⟨by simpa using h1, p3, p2⟩, by omega, by simpa using h2⟩
    · cases h
  · cases h
theorem protoN_ok {w : List UInt8} (h : protoN w ≠ 0) : protoOk (protoN w) = true := by
  unfold protoN at h ⊢
  split
  · rfl
  · split
    · rfl
    · split
      · rfl
      · next h1 h2 h3 => rw [if_neg h1, if_neg h2, if_neg h3] at h; exact absurd rfl h
theorem protosGo_spec : ∀ (l : List (List UInt8)) (k : Nat) (r : List Nat), protosGo k l = some r → rising k r = true ∧ ∀ x ∈ r, protoOk x = true := by
  intro l
  induction l with
  | nil => intro k r h; injection h with h; subst h; exact ⟨rfl, fun x hx => by cases hx⟩
  | cons w t ih =>
    intro k r h
    rw [protosGo] at h
    split at h
    · cases h
    next h1 =>
    cases hr : protosGo (protoN w) t with
    | none => rw [hr] at h; cases h
    | some q =>
      rw [hr] at h
      injection h with h
      subst h
      obtain ⟨e1, e2⟩ := ih _ _ hr
      refine ⟨?_, ?_⟩
      · unfold rising
        rw [e1, decide_eq_true (by omega)]
        rfl
      · intro x hx
        rcases List.mem_cons.1 hx with rfl | hx
        · exact protoN_ok (by omega)
        · exact e2 x hx
theorem protosP_spec {w : ByteArray} {r : List Nat} (h : protosP w = some r) : rising 0 r = true ∧ ∀ x ∈ r, protoOk x = true := by
  unfold protosP at h
  split at h
  · injection h with h; subst h; exact ⟨rfl, fun x hx => by cases hx⟩
  · exact protosGo_spec _ _ _ h
theorem selsGo_spec {en : ByteArray} : ∀ (l : List ByteArray) (i c : Nat) (L : List (Sel × Nat)) (t : List ByteArray), selsGo en l i c = .ok (L, t) → (∀ y ∈ L, selP (ofL (selT y.1)) = some y.1) ∧ (L ≠ [] → c + L.length ≤ 64) ∧ (c = 0 → L ≠ []) := by
  intro l
  induction l with
  | nil =>
    intro i c L t h
    rw [selsGo] at h
    split at h
    · cases h
    next h1 =>
    injection h with h
    injection h with h2 h3
    subst h2
    exact ⟨fun y hy => (by cases hy), fun h => absurd rfl h, fun h => absurd h h1⟩
  | cons w r ih =>
    intro i c L t h
    rw [selsGo] at h
    split at h
    · next h1 =>
      injection h with h
      injection h with h2 h3
      subst h2
      exact ⟨fun y hy => (by cases hy), fun h => absurd rfl h, fun h => absurd h h1.2⟩
    · split at h
      · cases h
      · next s hs =>
        split at h
        · cases h
        next h2 =>
        cases hr : selsGo en r (i + 1) (c + 1) with
        | error e => rw [hr] at h; cases h
        | ok q =>
          rw [hr] at h
          injection h with h
          injection h with h3 h4
          subst h3
          obtain ⟨e1, e2, _⟩ := ih _ _ _ _ hr
          refine ⟨?_, fun _ => ?_, fun _ => by simp⟩
          · intro y hy
            rcases List.mem_cons.1 hy with rfl | hy
            · exact selP_again hs
            · exact e1 y hy
          · rw [List.length_cons]
            by_cases e : q.1 = []
            · rw [e]; simp; omega
            · have := e2 e; omega
theorem portN_lt {s : List UInt8} {n : Nat} (h : portN s = some n) : n < 65536 := by
  unfold portN at h
  cases hn : num1 10 65536 s with
  | none => rw [hn] at h; cases h
  | some m =>
    rw [hn] at h
    simp only [Option.bind_some] at h
    split at h
    · injection h with h; subst h; exact num1_lt hn
    · cases h
theorem portsP_spec {w : ByteArray} {x : Nat × Nat} (h : portsP w = some x) : x.1 ≤ x.2 ∧ x.2 < 65536 := by
  unfold portsP at h
  simp only at h
  split at h
  · next a b ha hb =>
    split at h
    · next hle => injection h with h; subst h; exact ⟨hle, portN_lt hb⟩
    · cases h
  · cases h
theorem portsGo_spec : ∀ (l : List ByteArray) (i c : Nat) (r : List (Nat × Nat)), portsGo l i c = .ok r → (∀ x ∈ r, x.1 ≤ x.2 ∧ x.2 < 65536) ∧ (r ≠ [] → c + r.length ≤ 64) := by
  intro l
  induction l with
  | nil => intro i c r h; injection h with h; subst h; exact ⟨fun x hx => (by cases hx), fun h => absurd rfl h⟩
  | cons w t ih =>
    intro i c r h
    rw [portsGo] at h
    split at h
    · cases h
    · next x hx =>
      split at h
      · cases h
      next h2 =>
      cases hr : portsGo t (i + 1) (c + 1) with
      | error e => rw [hr] at h; cases h
      | ok q =>
        rw [hr] at h
        injection h with h
        subst h
        obtain ⟨e1, e2⟩ := ih _ _ _ hr
        refine ⟨?_, fun _ => ?_⟩
        · intro y hy
          rcases List.mem_cons.1 hy with rfl | hy
          · exact portsP_spec hx
          · exact e1 y hy
        · rw [List.length_cons]
          by_cases e : q = []
          · rw [e]; simp; omega
          · have := e2 e; omega
theorem acceptP_spec {ws : List ByteArray} {told : Nat} {a : Ac} {L : List (Sel × Nat)} (h : acceptP ws told = .ok (a, L)) : AcOk a ∧ told < 64 ∧ (∀ s, s ∈ a.src ∨ s ∈ a.dst → ∃ y ∈ L, y.1 = s) := by
  unfold acceptP at h
  split at h
  · cases h
  next h0 =>
  split at h
  · split at h
    · cases h
    next ps hps =>
    split at h
    · cases h
    · split at h
      · cases h
      · split at h
        · cases h
        next src r2 hsrc =>
        split at h
        · cases h
        · split at h
          · cases h
          next dst r4 hdst =>
          obtain ⟨p1, p2⟩ := protosP_spec hps
          obtain ⟨s1, s2, s3⟩ := selsGo_spec _ _ _ _ _ hsrc
          obtain ⟨d1, d2, d3⟩ := selsGo_spec _ _ _ _ _ hdst
          have sl := s2 (s3 rfl)
          have dl := d2 (d3 rfl)
          have sp : 1 ≤ src.length := by
            cases src with
            | nil => exact absurd rfl (s3 rfl)
            | cons _ _ => simp
          have dp : 1 ≤ dst.length := by
            cases dst with
            | nil => exact absurd rfl (d3 rfl)
            | cons _ _ => simp
          have fin : ∀ po : List (Nat × Nat), (∀ x ∈ po, x.1 ≤ x.2 ∧ x.2 < 65536) → po.length ≤ 64 → AcOk ⟨ps, src.map (·.1), dst.map (·.1), po⟩ := by
            intro po h1 h2
            refine ⟨p1, p2, ?_, ?_, by simpa using sp, by simp; omega, by simpa using dp, by simp; omega, h1, h2⟩
            · intro s hs
              obtain ⟨y, hy, rfl⟩ := List.mem_map.1 hs
              exact s1 y hy
            · intro s hs
              obtain ⟨y, hy, rfl⟩ := List.mem_map.1 hs
              exact d1 y hy
          have cov : ∀ s, s ∈ src.map (·.1) ∨ s ∈ dst.map (·.1) → ∃ y ∈ src ++ dst, y.1 = s := by
            rintro s (hs | hs)
            · obtain ⟨y, hy, rfl⟩ := List.mem_map.1 hs
              exact ⟨y, List.mem_append_left _ hy, rfl⟩
            · obtain ⟨y, hy, rfl⟩ := List.mem_map.1 hs
              exact ⟨y, List.mem_append_right _ hy, rfl⟩
          split at h
          · injection h with h
            injection h with h1 h2
            subst h1 h2
            exact ⟨fin [] (fun x hx => (by cases hx)) (by simp), by omega, cov⟩
          · next w r5 =>
            split at h
            · cases h
            · obtain ⟨po, hg, hy⟩ := map_ok h
              injection hy with h1 h2
              subst h1 h2
              obtain ⟨q1, q2⟩ := portsGo_spec _ _ _ _ hg
              refine ⟨fin po q1 ?_, by omega, cov⟩
              by_cases e : po = []
              · subst e; simp
              · have := q2 e; omega
  · cases h
structure BagOk (b : Bag) : Prop where
  groups : ∀ n ∈ b.p.groups, NmOk n
  groups64 : b.p.groups.length ≤ 64
  groupsD : distinct (b.p.groups.map (·.name)) = true
  tags : ∀ n ∈ b.p.tags, NmOk n
  tags64 : b.p.tags.length ≤ 64
  tagsD : distinct (b.p.tags.map (·.name)) = true
  hosts : ∀ x ∈ b.p.hosts, HsOk x
  hosts64 : b.p.hosts.length ≤ 64
  hostsD : distinct (b.p.hosts.map (·.name)) = true
  acls : ∀ a ∈ b.p.acls, AcOk a ∧ ∀ s, s ∈ a.src ∨ s ∈ a.dst → ∃ u ∈ b.used, u.1 = s
  acls64 : b.p.acls.length ≤ 64
theorem distinct_snoc : ∀ {A : List ByteArray} {x : ByteArray}, distinct A = true → x ∉ A → distinct (A ++ [x]) = true := by
  intro A
  induction A with
  | nil => intro x _ _; rfl
  | cons y r ih =>
    intro x h hx
    rw [List.cons_append, distinct]
    rw [distinct] at h
    simp only [Bool.and_eq_true, Bool.not_eq_true', List.any_eq_false, decide_eq_true_eq] at h ⊢
    refine ⟨fun t ht => ?_, ih h.2 fun e => hx (List.mem_cons_of_mem _ e)⟩
    rcases List.mem_append.1 ht with ht | ht
    · exact h.1 t ht
    · rw [List.mem_singleton.1 ht]
      rintro rfl
      exact hx (List.mem_cons_self ..)
theorem hasN_not {l : List Nm} {s : ByteArray} (h : hasN l s = false) : s ∉ l.map (·.name) := by
  intro e
  obtain ⟨n, hn, rfl⟩ := List.mem_map.1 e
  unfold hasN at h
  rw [List.any_eq_false] at h
  exact h n hn (by simp)
theorem hasH_not {l : List Hs} {s : ByteArray} (h : hasH l s = false) : s ∉ l.map (·.name) := by
  intro e
  obtain ⟨n, hn, rfl⟩ := List.mem_map.1 e
  unfold hasH at h
  rw [List.any_eq_false] at h
  exact h n hn (by simp)
theorem mem_snoc {α : Type} {P : α → Prop} {l : List α} {x : α} (h : ∀ y ∈ l, P y) (hx : P x) : ∀ y ∈ l ++ [x], P y := by
  intro y hy
  rcases List.mem_append.1 hy with hy | hy
  · exact h y hy
  · rw [List.mem_singleton.1 hy]; exact hx
theorem lineP_ok {b b' : Bag} {n : Nat} {ws : List ByteArray} (hb : BagOk b) (h : lineP b n ws = .ok b') : BagOk b' := by
  unfold lineP at h
  split at h
  · injection h with h; subst h; exact hb
  · split at h
    · generalize hx : namedP _ b.p.groups = r at h
      cases r with
      | error e => cases h
      | ok x =>
        injection h with h
        subst h
        obtain ⟨e1, e2, e3⟩ := namedP_spec hx
        exact { hb with groups := mem_snoc hb.groups e1, groups64 := by simp; omega, groupsD := by rw [List.map_append]; exact distinct_snoc hb.groupsD (hasN_not e3) }
    · split at h
      · generalize hx : namedP _ b.p.tags = r at h
        cases r with
        | error e => cases h
        | ok x =>
          injection h with h
          subst h
          obtain ⟨e1, e2, e3⟩ := namedP_spec hx
          exact { hb with tags := mem_snoc hb.tags e1, tags64 := by simp; omega, tagsD := by rw [List.map_append]; exact distinct_snoc hb.tagsD (hasN_not e3) }
      · split at h
        · generalize hx : hostP _ b.p.hosts = r at h
          cases r with
          | error e => cases h
          | ok x =>
            injection h with h
            subst h
            obtain ⟨e1, e2, e3⟩ := hostP_spec hx
            exact { hb with hosts := mem_snoc hb.hosts e1, hosts64 := by simp; omega, hostsD := by rw [List.map_append]; exact distinct_snoc hb.hostsD (hasH_not e3) }
        · split at h
          · generalize hx : acceptP _ b.p.acls.length = r at h
            cases r with
            | error e => cases h
            | ok x =>
              injection h with h
              subst h
              obtain ⟨a, L⟩ := x
              obtain ⟨e1, e2, e3⟩ := acceptP_spec hx
              refine { hb with acls := mem_snoc (fun a ha => ?_) ?_, acls64 := by simp; omega }
              · obtain ⟨q1, q2⟩ := hb.acls a ha
                refine ⟨q1, fun s hs => ?_⟩
                obtain ⟨u, hu, hus⟩ := q2 s hs
                exact ⟨u, List.mem_append_left _ hu, hus⟩
              · refine ⟨e1, fun s hs => ?_⟩
                obtain ⟨y, hy, hys⟩ := e3 s hs
                exact ⟨(y.1, n, y.2), List.mem_append_right _ (List.mem_map.2 ⟨y, hy, rfl⟩), hys⟩
          · cases h
theorem linesP_ok : ∀ (l : List (List UInt8)) (n : Nat) (b b' : Bag), BagOk b → linesP l n b = .ok b' → BagOk b' := by
  intro l
  induction l with
  | nil => intro n b b' hb h; injection h with h; subst h; exact hb
  | cons x r ih =>
    intro n b b' hb h
    rw [linesP] at h
    split at h
    · cases h
    · next b2 h2 => exact ih _ _ _ (lineP_ok hb h2) h
theorem bag_zero : BagOk ⟨Po.zero, []⟩ := ⟨fun x hx => (by cases hx), by decide, rfl, fun x hx => (by cases hx), by decide, rfl, fun x hx => (by cases hx), by decide, rfl, fun x hx => (by cases hx), by decide⟩
theorem err_ne {k i : Nat} {e : Bad} {α : Type} (h : (Except.error (k, i) : Except Bad α) = .error e) (hk : k ≠ 0) : e.1 ≠ 0 := by
  injection h with h
  rw [← h]
  exact hk
theorem namesGo_err : ∀ (l : List ByteArray) (i c : Nat) (e : Bad), namesGo l i c = .error e → e.1 ≠ 0 := by
  intro l
  induction l with
  | nil => intro i c e h; cases h
  | cons s t ih =>
    intro i c e h
    rw [namesGo] at h
    split at h
    · exact err_ne h (by decide)
    · split at h
      · exact err_ne h (by decide)
      · exact ih _ _ _ (map_err h)
theorem selsGo_err {en : ByteArray} : ∀ (l : List ByteArray) (i c : Nat) (e : Bad), selsGo en l i c = .error e → e.1 ≠ 0 := by
  intro l
  induction l with
  | nil =>
    intro i c e h
    rw [selsGo] at h
    split at h
    · exact err_ne h (by decide)
    · cases h
  | cons s t ih =>
    intro i c e h
    rw [selsGo] at h
    split at h
    · cases h
    · split at h
      · exact err_ne h (by decide)
      · split at h
        · exact err_ne h (by decide)
        · exact ih _ _ _ (map_err h)
theorem portsGo_err : ∀ (l : List ByteArray) (i c : Nat) (e : Bad), portsGo l i c = .error e → e.1 ≠ 0 := by
  intro l
  induction l with
  | nil => intro i c e h; cases h
  | cons s t ih =>
    intro i c e h
    rw [portsGo] at h
    split at h
    · exact err_ne h (by decide)
    · split at h
      · exact err_ne h (by decide)
      · exact ih _ _ _ (map_err h)
theorem namedP_err {ws : List ByteArray} {told : List Nm} {e : Bad} (h : namedP ws told = .error e) : e.1 ≠ 0 := by
  unfold namedP at h
  repeat' split at h
  all_goals first | exact err_ne h (by decide) | exact namesGo_err _ _ _ _ (map_err h)
theorem hostP_err {ws : List ByteArray} {told : List Hs} {e : Bad} (h : hostP ws told = .error e) : e.1 ≠ 0 := by
  unfold hostP at h
  repeat' split at h
  all_goals first | exact err_ne h (by decide) | cases h
theorem acceptP_err {ws : List ByteArray} {told : Nat} {e : Bad} (h : acceptP ws told = .error e) : e.1 ≠ 0 := by
  unfold acceptP at h
  repeat' split at h
  all_goals first
    | exact err_ne h (by decide)
    | exact portsGo_err _ _ _ _ (map_err h)
    | (cases h; exact selsGo_err _ _ _ _ (by assumption))
    | cases h
theorem lineP_err {b : Bag} {n : Nat} {ws : List ByteArray} {e : Bad} (h : lineP b n ws = .error e) : e.1 ≠ 0 := by
  unfold lineP at h
  repeat' split at h
  all_goals first
    | exact err_ne h (by decide)
    | exact namedP_err (map_err h)
    | exact hostP_err (map_err h)
    | exact acceptP_err (map_err h)
    | cases h
/- A TEXT THAT IS READ IS A POLICY THAT MAY BE. -/
theorem parse_may {s : List UInt8} {q : Po} {f : Flt} (h : parseP s = (q, f)) (hf : f.1 = 0) : f = (0, 0, 0) ∧ mayP q = true ∧ PoOk q := by
  unfold parseP at h
  split at h
  · injection h with h1 h2; subst h2; cases hf
  · split at h
    · next e he =>
      injection h with h1 h2
      subst h2
      exfalso
      have : ∀ (l : List (List UInt8)) (n : Nat) (b : Bag) (e : Flt), linesP l n b = .error e → e.1 ≠ 0 := by
        intro l
        induction l with
        | nil => intro n b e h; cases h
        | cons x r ih =>
          intro n b e h
          rw [linesP] at h
          split at h
          · next e2 h2 => injection h with h; subst h; exact lineP_err h2
          · exact ih _ _ _ h
      exact this _ _ _ _ he hf
    · next b hb =>
      have B := linesP_ok _ _ _ _ bag_zero hb
      split at h
      · injection h with h1 h2; subst h2; cases hf
      · next hn =>
        injection h with h1 h2
        subst h1 h2
        rw [List.find?_eq_none] at hn
        have kn : ∀ a ∈ b.p.acls, ∀ s, s ∈ a.src ∨ s ∈ a.dst → knownP b.p s = true := by
          intro a ha s hs
          obtain ⟨u, hu, rfl⟩ := (B.acls a ha).2 s hs
          simpa using hn u hu
        refine ⟨rfl, ?_, ⟨fun x hx => (B.hosts x hx).ok, fun a ha x hx => by have := (B.acls a ha).1.ports x hx; omega⟩⟩
        have nm : ∀ l : List Nm, (∀ n ∈ l, NmOk n) → l.length ≤ 64 → distinct (l.map (·.name)) = true → mayNm l = true := by
          intro l h1 h2 h3
          unfold mayNm
          simp only [Bool.and_eq_true, decide_eq_true_eq]
          refine ⟨⟨List.all_eq_true.2 fun n hn => ?_, h2⟩, h3⟩
          have := h1 n hn
          simp only [Bool.and_eq_true, decide_eq_true_eq]
          exact ⟨⟨⟨this.name, this.ge⟩, this.le⟩, List.all_eq_true.2 this.all⟩
        unfold mayP
        simp only [Bool.and_eq_true, decide_eq_true_eq]
        refine ⟨⟨⟨⟨⟨⟨nm _ B.groups B.groups64 B.groupsD, nm _ B.tags B.tags64 B.tagsD⟩, B.hosts64⟩, B.acls64⟩, List.all_eq_true.2 fun x hx => ?_⟩, List.all_eq_true.2 fun a ha => ?_⟩, B.hostsD⟩
        · simp only [Bool.and_eq_true]; exact ⟨(B.hosts x hx).name, (B.hosts x hx).may⟩
        · have A := (B.acls a ha).1
          have K := kn a ha
          unfold mayAc maySels
          simp only [Bool.and_eq_true, decide_eq_true_eq]
          refine ⟨⟨⟨⟨⟨List.all_eq_true.2 fun x hx => decide_eq_true (A.ports x hx).1, List.all_eq_true.2 fun x hx => A.protos x hx⟩, A.rise⟩, A.ports64⟩, ⟨⟨List.all_eq_true.2 fun s hs => ?_, A.src1⟩, A.src64⟩⟩, ⟨⟨List.all_eq_true.2 fun s hs => ?_, A.dst1⟩, A.dst64⟩⟩
          · simp only [Bool.and_eq_true, decide_eq_true_eq]; exact ⟨A.src s hs, K s (Or.inl hs)⟩
          · simp only [Bool.and_eq_true, decide_eq_true_eq]; exact ⟨A.dst s hs, K s (Or.inr hs)⟩
end Go.Proofs.YtbiglifngfgffaaGreatDoor

/- Label: the walk. -/
namespace Go.Proofs.YtbiglifngfgffaaGreatDoor
open Go.RowKit

def labSet : ByteArray := ⟨#[97, 98, 99, 100, 101, 102, 103, 104, 105, 106, 107, 108, 109, 110, 111, 112, 113, 114, 115, 116, 117, 118, 119, 120, 121, 122, 48, 49, 50, 51, 52, 53, 54, 55, 56, 57, 46, 95, 45]⟩
theorem labc_set (c : UInt8) : labSet.data.toList.contains c = labc c := by
  have h : ∀ n : Fin 256, labSet.data.toList.contains (UInt8.ofNat n.val) = labc (UInt8.ofNat n.val) := by decide +kernel
  have := h ⟨c.toNat, c.toNat_lt⟩
  simpa using this
theorem dropWhile_nil_iff (p : UInt8 → Bool) : ∀ l : List UInt8, l.dropWhile p = [] ↔ l.all p = true := by
  intro l
  induction l with
  | nil => simp
  | cons c r ih =>
    rw [List.dropWhile_cons, List.all_cons]
    cases h : p c with
    | true => simp [ih]
    | false => simp
theorem dropWhile_all {p : UInt8 → Bool} {l : List UInt8} (h : (l.dropWhile p).all p = true) : l.all p = true := by
  induction l with
  | nil => rfl
  | cons c r ih =>
    rw [List.dropWhile_cons] at h
    cases hc : p c with
    | true =>
      rw [hc, if_pos rfl] at h
      rw [List.all_cons, hc, ih h]
      rfl
    | false => rw [hc, if_neg (by decide)] at h; exact h
theorem trimS_nil (l cs : List UInt8) : (Lib.trimS l cs).isEmpty = l.all (cs.contains ·) := by
  have e : Lib.trimS l cs = [] ↔ l.all (cs.contains ·) = true := by
    unfold Lib.trimS Lib.trimLeftS Lib.trimRightS
    rw [dropWhile_nil_iff, List.all_reverse]
    constructor
    · intro h
      have := dropWhile_all h
      rwa [List.all_reverse] at this
    · intro h
      have : (l.reverse.dropWhile fun x => cs.contains x) = [] := (dropWhile_nil_iff _ _).2 (by rw [List.all_reverse]; exact h)
      rw [this]
      rfl
  cases h : l.all (cs.contains ·) with
  | true => rw [e.2 h]; rfl
  | false =>
    cases ht : Lib.trimS l cs with
    | nil => rw [e.1 ht] at h; cases h
    | cons _ _ => rfl
theorem label_cons {s : ByteArray} (h : 0 < s.size) : labelB s = (decide (s.size ≤ 32) && az (s[0]'h) && s.data.toList.all labc) := by
  have hl : s.data.toList.length = s.size := by rw [Array.length_toList]; rfl
  unfold labelB
  have h0 : s.data.toList[0]? = some (s[0]'h) := by
    rw [List.getElem?_eq_getElem (by omega)]
    simp
    rfl
  cases hs : s.data.toList with
  | nil => rw [hs] at hl; simp at hl; omega
  | cons c r =>
    rw [hs] at h0 hl
    injection h0 with h0
    unfold labelL
    rw [← h0, List.all_cons, List.length_cons] at *
    simp only
    cases hc : az c with
    | false => simp
    | true =>
      rw [az_labc hc, Bool.true_and]
      congr 2
      by_cases h32 : s.size ≤ 32
      · rw [decide_eq_true h32, decide_eq_true (by omega)]
      · rw [decide_eq_false h32, decide_eq_false (by omega)]

set_option maxHeartbeats 2000000 in
set_option maxRecDepth 100000 in
theorem label_any (s : ByteArray) (hs : s.size ≤ 4000000) (w : World) : Calls Tryz.prog 16 #[.string s] w (Got (.bool (labelB s)) w) := by
  have htr : ∀ v, Calls Tryz.prog 42 #[.string s, .string labSet] v (Got (.string ⟨(Lib.trimS s.data.toList labSet.data.toList).toArray⟩) v) := fun v => Any.strings_Trim_laid Tryz.lays160 (by kernel_rfl) s labSet v (by omega) (by decide) (ascii_of_all (by decide))
  have hb0 := Below.refl w.heap.size w
  have hset := trimS_nil s.data.toList labSet.data.toList
  rw [show (fun x => labSet.data.toList.contains x) = labc from funext labc_set] at hset
  by_cases h0 : s.size = 0
  · have he : s = ByteArray.empty := ByteArray.ext (Array.eq_empty_of_size_eq_zero h0)
    subst he
    go_enter Tryz.func16, Tryz.ntmps16
    go_wp2_with fail
    go_ret
    exact ⟨rfl, hb0⟩
  · have hp : 0 < s.size := by omega
    have hemp : s.toList.isEmpty = false := by
      rw [← decide_eq_emptyBytes]
      exact decide_eq_false (fun h => h0 (by rw [h]; rfl))
    rw [label_cons hp]
    generalize hx : (s[0]'hp).toNat = x0
    have hazx : az (s[0]'hp) = decide (97 ≤ x0 ∧ x0 ≤ 122) := by unfold az; rw [hx]
    rw [hazx]
    generalize hT : (⟨(Lib.trimS s.data.toList labSet.data.toList).toArray⟩ : ByteArray) = TT at htr
    have hTe : TT.toList.isEmpty = s.data.toList.all labc := by rw [← hset, ← hT, ByteArray.toList_eq]
    generalize s.data.toList.all labc = LL at hTe ⊢
    unfold labSet at htr
    have HTR := Lib.hid htr
    clear htr hset hT h0 hazx
    by_cases h32 : s.size ≤ 32
    · have q1 : ¬ (32 : Int) < (s.size : Int) := by omega
      by_cases h97 : x0 < 97
      · have q2 : (x0 : Int) < 97 := by omega
        rw [show decide (97 ≤ x0 ∧ x0 ≤ 122) = false from decide_eq_false (by omega), Bool.and_false, Bool.false_and]
        clear h97 h32
        go_enter Tryz.func16, Tryz.ntmps16
        go_wp2_with fail
        go_ret
        exact ⟨rfl, hb0⟩
      · have q2 : ¬ (x0 : Int) < 97 := by omega
        by_cases h122 : 122 < x0
        · have q3 : (122 : Int) < (x0 : Int) := by omega
          rw [show decide (97 ≤ x0 ∧ x0 ≤ 122) = false from decide_eq_false (by omega), Bool.and_false, Bool.false_and]
          clear h97 h32 h122
          go_enter Tryz.func16, Tryz.ntmps16
          go_wp2_with fail
          go_ret
          exact ⟨rfl, hb0⟩
        · have q3 : ¬ (122 : Int) < (x0 : Int) := by omega
          rw [show decide (97 ≤ x0 ∧ x0 ≤ 122) = true from decide_eq_true (by omega), decide_eq_true h32, Bool.true_and, Bool.true_and]
          clear h97 h32 h122
          go_enter Tryz.func16, Tryz.ntmps16
          go_wp2_with (go_at_call 42; (with_reducible refine (HTR.out _).mono ?_); rintro r w2 ⟨rfl, d2⟩)
          go_ret
          exact ⟨rfl, d2⟩
    · have q1 : (32 : Int) < (s.size : Int) := by omega
      rw [decide_eq_false h32, Bool.false_and, Bool.false_and]
      clear h32
      go_enter Tryz.func16, Tryz.ntmps16
      go_wp2_with fail
      go_ret
      exact ⟨rfl, hb0⟩
end Go.Proofs.YtbiglifngfgffaaGreatDoor

/- The library's FieldsFunc at blanks and tabs: byte by byte. -/
namespace Go.Proofs.YtbiglifngfgffaaGreatDoor
open Go.RowKit

def blankR (r : Nat) : Bool := decide (r = 32) || decide (r = 9)
theorem blankR_ge {r : Nat} (h : 128 ≤ r) : blankR r = false := by
  unfold blankR
  rw [decide_eq_false (by omega), decide_eq_false (by omega)]
  rfl
theorem blank_nat (c : UInt8) : blank c = blankR c.toNat := by
  unfold blank blankR
  have e1 : (c = 32) ↔ c.toNat = 32 := ⟨fun h => by rw [h]; rfl, fun h => UInt8.toNat_inj.1 h⟩
  have e2 : (c = 9) ↔ c.toNat = 9 := ⟨fun h => by rw [h]; rfl, fun h => UInt8.toNat_inj.1 h⟩
  simp [e1, e2]
theorem get_list (s : ByteArray) (i : Nat) : s.get! i = s.data.toList.getD i 0 := by
  show s.data[i]! = _
  rw [List.getD_eq_getElem?_getD, Array.getElem?_toList, Array.getElem!_eq_getD, Array.getD_eq_getD_getElem?]
  rfl
theorem decode_facts (s : ByteArray) (pos : Nat) (h : pos < s.size) :
    ((s.data.toList.getD pos 0).toNat < 128 → (Utf8.decode s pos) = ((s.data.toList.getD pos 0).toNat, 1)) ∧ (128 ≤ (s.data.toList.getD pos 0).toNat → 128 ≤ (Utf8.decode s pos).1) ∧ 1 ≤ (Utf8.decode s pos).2 ∧ pos + (Utf8.decode s pos).2 ≤ s.size ∧ ∀ j, 0 < j → j < (Utf8.decode s pos).2 → 128 ≤ (s.data.toList.getD (pos + j) 0).toNat := by
  rw [Lib.decode_at, get_list, get_list, get_list, get_list]
  generalize (s.data.toList.getD pos 0).toNat = b0
  generalize h1 : (s.data.toList.getD (pos + 1) 0).toNat = b1
  generalize h2 : (s.data.toList.getD (pos + 2) 0).toNat = b2
  generalize h3 : (s.data.toList.getD (pos + 3) 0).toNat = b3
  rcases Lib.decodeN_shape (s.size - pos) b0 b1 b2 b3 with ⟨a, e⟩ | ⟨a, b, c, d, e⟩ | ⟨a, b, c, d, f, g, e⟩ | ⟨a, b, c, d, f, g, k, e⟩ | e
  · rw [e]
    exact ⟨fun _ => rfl, fun _ => by simp only; omega, Nat.le_refl _, by simp only; omega, fun j h0 hj => by simp only at hj; omega⟩
  · rw [e]
    refine ⟨fun _ => by omega, fun _ => d, by simp only; omega, by simp only; omega, fun j h0 hj => ?_⟩
    simp only at hj
    obtain rfl : j = 1 := by omega
    rw [h1]
    omega
  · rw [e]
    refine ⟨fun _ => by omega, fun _ => by simp only; omega, by simp only; omega, by simp only; omega, fun j h0 hj => ?_⟩
    simp only at hj
    have : j = 1 ∨ j = 2 := by omega
    rcases this with rfl | rfl
    · rw [h1]; omega
    · rw [h2]; omega
  · rw [e]
    refine ⟨fun _ => by omega, fun _ => by simp only; omega, by simp only; omega, by simp only; omega, fun j h0 hj => ?_⟩
    simp only at hj
    have : j = 1 ∨ j = 2 ∨ j = 3 := by omega
    rcases this with rfl | rfl | rfl
    · rw [h1]; omega
    · rw [h2]; omega
    · rw [h3]; omega
  · rw [e]
    refine ⟨fun hb => ?_, fun _ => by decide, by simp only; omega, by simp only; omega, fun j h0 hj => by simp only at hj; omega⟩
    rw [← e]
    simp [Lib.decodeN, hb]
def extL (L : List UInt8) (x : Nat × Nat) : List UInt8 := (L.take x.2).drop x.1
def curL (L : List UInt8) (pos : Nat) : Option Nat → List UInt8
  | none => []
  | some a => (L.take pos).drop a
theorem spansP_none (p : Nat → Bool) (s : ByteArray) (f pos : Nat) (acc : List (Nat × Nat)) : Lib.spansFromP p s (f + 1) pos none acc = if pos < s.size then (if p (Utf8.decode s pos).1 = true then Lib.spansFromP p s f (pos + (Utf8.decode s pos).2) none acc else Lib.spansFromP p s f (pos + (Utf8.decode s pos).2) (some pos) acc) else (acc, none) := rfl
theorem spansP_some (p : Nat → Bool) (s : ByteArray) (f pos a : Nat) (acc : List (Nat × Nat)) : Lib.spansFromP p s (f + 1) pos (some a) acc = if pos < s.size then (if p (Utf8.decode s pos).1 = true then Lib.spansFromP p s f (pos + (Utf8.decode s pos).2) none (acc ++ [(a, pos)]) else Lib.spansFromP p s f (pos + (Utf8.decode s pos).2) (some a) acc) else (acc, some a) := rfl
theorem spans_fields (s : ByteArray) : ∀ (f pos : Nat) (st : Option Nat) (acc : List (Nat × Nat)), s.size ≤ pos + f → pos ≤ s.size → (∀ a, st = some a → a < pos) →
    (Lib.closeSpans s (Lib.spansFromP blankR s f pos st acc)).map (extL s.data.toList) = acc.map (extL s.data.toList) ++ fieldsGo (curL s.data.toList pos st) (s.data.toList.drop pos) := by
  have hlen : s.data.toList.length = s.size := by rw [Array.length_toList]; rfl
  have fin : ∀ (pos : Nat) (st : Option Nat) (acc : List (Nat × Nat)), pos = s.size → (∀ a, st = some a → a < pos) → (Lib.closeSpans s (acc, st)).map (extL s.data.toList) = acc.map (extL s.data.toList) ++ fieldsGo (curL s.data.toList pos st) (s.data.toList.drop pos) := by
    intro pos st acc hp hst
    rw [List.drop_of_length_le (by omega)]
    cases st with
    | none => simp [Lib.closeSpans, curL, fieldsGo]
    | some a =>
      have ha := hst a rfl
      have hne : curL s.data.toList pos (some a) ≠ [] := by
        intro e
        have := congrArg List.length e
        simp [curL] at this
        omega
      rw [fieldsGo, if_neg hne]
      simp [Lib.closeSpans, extL, curL, hp]
  intro f
  induction f with
  | zero =>
    intro pos st acc hf hp hst
    exact fin pos st acc (by omega) hst
  | succ f ih =>
    intro pos st acc hf hp hst
    by_cases hlt : pos < s.size
    · obtain ⟨f1, f2, f3, f4, f5⟩ := decode_facts s pos hlt
      have hget : ∀ i (hi : i < s.data.toList.length), s.data.toList.getD i 0 = s.data.toList[i] := fun i hi => by rw [List.getD_eq_getElem?_getD, List.getElem?_eq_getElem hi]; rfl
      by_cases hb : blankR (Utf8.decode s pos).1 = true
      · have h128 : (s.data.toList.getD pos 0).toNat < 128 := by
          rcases Nat.lt_or_ge (s.data.toList.getD pos 0).toNat 128 with h | h
          · exact h
          · rw [blankR_ge (f2 h)] at hb; cases hb
        have e := f1 h128
        have hb0 := hb
        rw [e] at hb
        simp only at hb
        have hd : s.data.toList.drop pos = s.data.toList[pos] :: s.data.toList.drop (pos + 1) := List.drop_eq_getElem_cons (by omega)
        have hbl : blank s.data.toList[pos] = true := by rw [blank_nat, ← hget pos (by omega)]; exact hb
        cases st with
        | none =>
          rw [spansP_none, if_pos hlt, if_pos hb0, e]
          simp only
          rw [ih _ _ _ (by omega) (by omega) (fun a h => by cases h), hd]
          conv => rhs; rw [curL, fieldsGo, if_pos hbl, if_pos rfl]
          rfl
        | some a =>
          have ha := hst a rfl
          have hne : curL s.data.toList pos (some a) ≠ [] := by
            intro e
            have := congrArg List.length e
            simp [curL] at this
            omega
          rw [spansP_some, if_pos hlt, if_pos hb0, e]
          simp only
          rw [ih _ _ _ (by omega) (by omega) (fun a h => by cases h), hd]
          conv => rhs; rw [fieldsGo, if_pos hbl, if_neg hne]
          rw [List.map_append, List.append_assoc]
          rfl
      · have hb0 := hb
        generalize hK : (Utf8.decode s pos).2 = K at f3 f4 f5
        have seg : ∀ c ∈ (s.data.toList.drop pos).take K, blank c = false := by
          intro c hc
          obtain ⟨j, hj, rfl⟩ := List.getElem_of_mem hc
          rw [List.length_take, List.length_drop] at hj
          rw [List.getElem_take, List.getElem_drop, blank_nat, ← hget (pos + j) (by omega)]
          by_cases h0 : j = 0
          · subst h0
            rw [Nat.add_zero]
            rcases Nat.lt_or_ge (s.data.toList.getD pos 0).toNat 128 with h | h
            · have := f1 h
              rw [this] at hb
              simpa using hb
            · exact blankR_ge h
          · exact blankR_ge (f5 j (by omega) (by omega))
        have hd : s.data.toList.drop pos = (s.data.toList.drop pos).take K ++ s.data.toList.drop (pos + K) := by
          rw [← List.drop_drop]
          exact (List.take_append_drop K _).symm
        have cur : ∀ a, a ≤ pos → (s.data.toList.take (pos + K)).drop a = (s.data.toList.take pos).drop a ++ (s.data.toList.drop pos).take K := by
          intro a ha
          rw [List.take_add, List.drop_append_of_le_length (by rw [List.length_take]; omega)]
        cases st with
        | none =>
          rw [spansP_none, if_pos hlt, if_neg hb0, hK]
          rw [ih _ _ _ (by omega) (by omega) (fun a h => by injection h with h; omega)]
          conv => rhs; rw [hd, fieldsGo_solid _ _ _ seg]
          congr 2
          rw [curL, curL, cur pos (Nat.le_refl _), List.nil_append, List.drop_of_length_le (by rw [List.length_take]; omega), List.nil_append]
        | some a =>
          have ha := hst a rfl
          rw [spansP_some, if_pos hlt, if_neg hb0, hK]
          rw [ih _ _ _ (by omega) (by omega) (fun b h => by injection h with h; omega)]
          conv => rhs; rw [hd, fieldsGo_solid _ _ _ seg]
          congr 2
          rw [curL, curL, cur a (by omega)]
    · have hx : Lib.spansFromP blankR s (f + 1) pos st acc = (acc, st) := Lib.spansFromP_end _ _ _ _ _ _ hlt
      rw [hx]
      exact fin pos st acc (by omega) hst
theorem fields_are (s : ByteArray) : Lib.goFieldsP blankR s = (fieldsB s.data.toList).map ofL := by
  have h := spans_fields s s.size 0 none [] (by omega) (by omega) (fun a h => by cases h)
  rw [List.map_nil, List.nil_append, List.drop_zero] at h
  unfold fieldsB
  rw [show curL s.data.toList 0 none = [] from rfl] at h
  rw [← h, List.map_map]
  unfold Lib.goFieldsP Lib.spansOfP
  apply List.map_congr_left
  intro x _
  show s.extract x.1 x.2 = ofL (extL s.data.toList x)
  unfold ofL extL
  apply ByteArray.ext
  rw [ByteArray.data_extract]
  apply Array.ext'
  rw [Array.toList_extract]
  simp [List.drop_take]
end Go.Proofs.YtbiglifngfgffaaGreatDoor

/- Numbers read off texts: the plain law against the library's own. -/
namespace Go.Proofs.YtbiglifngfgffaaGreatDoor

/- What a parser answers: a number and no error, or an error. -/
def PuRes (base B : Nat) (l : List UInt8) (r : Ending) : Prop := (∃ n : Nat, num1 base B l = some n ∧ r = .returned (.tuple #[.int .u64 (n : Int), .nilIface])) ∨ (num1 base B l = none ∧ ∃ (n : Nat) (tp : TypeId) (p : Value), n < 18446744073709551616 ∧ r = .returned (.tuple #[.int .u64 (n : Int), .iface tp p]))

theorem dval10 (c : UInt8) : dval 10 c = if 48 ≤ c.toNat ∧ c.toNat ≤ 57 then some (c.toNat - 48) else none := by
  unfold dval
  split
  · rw [if_pos (by omega)]
  · split
    · rw [if_neg (by omega)]
    · split
      · rw [if_neg (by omega)]
      · rfl
theorem pval_none_lt {dv : UInt8 → Option Nat} {base B acc : Nat} {l : List UInt8} (hb : 1 ≤ base) (h : B ≤ acc) : (pval dv base acc l).bind (fun n => if n < B then some n else none) = none := by
  cases e : pval dv base acc l with
  | none => rfl
  | some n =>
    have := pval_ge dv base hb l acc n e
    simp only [Option.bind_some]
    rw [if_neg (by omega)]
/- The library's reading at a bound M = B - 1. -/
theorem pval_M {M : Nat} (hM : M < 18446744073709551616) : ∀ (l : List UInt8) (acc : Nat), acc ≤ M → (match Lib.parseUintM M acc l with
    | .ok u => (pval (dval 10) 10 acc l).bind (fun n => if n < M + 1 then some n else none) = some u
    | _ => (pval (dval 10) 10 acc l).bind (fun n => if n < M + 1 then some n else none) = none) := by
  intro l
  induction l with
  | nil => intro acc h; simp only [Lib.parseUintM, pval, Option.bind_some]; rw [if_pos (by omega)]
  | cons c r ih =>
    intro acc h
    unfold Lib.parseUintM pval
    rw [dval10]
    by_cases hd : 48 ≤ c.toNat ∧ c.toNat ≤ 57
    · rw [if_pos hd, if_pos hd]
      simp only
      by_cases hc : 1844674407370955162 ≤ acc
      · rw [if_pos hc]
        exact pval_none_lt (by decide) (by omega)
      · rw [if_neg hc]
        by_cases hm : M < acc * 10 + (c.toNat - 48)
        · rw [if_pos hm]
          exact pval_none_lt (by decide) (by omega)
        · rw [if_neg hm]
          exact ih _ (by omega)
    · rw [if_neg hd, if_neg hd]
      rfl
theorem num1_B {B : Nat} (hB : B ≤ 64) (l : List UInt8) : (match Lib.parseUintB B l with
    | .ok u => num1 10 (2 ^ B) l = some u
    | _ => num1 10 (2 ^ B) l = none) := by
  have hp : 0 < 2 ^ B := Nat.pow_pos (by decide)
  have hl : 2 ^ B ≤ 2 ^ 64 := Nat.pow_le_pow_right (by decide) hB
  unfold Lib.parseUintB num1
  by_cases h : l = []
  · rw [if_pos h, if_pos h]
  · rw [if_neg h, if_neg h]
    have := pval_M (M := 2 ^ B - 1) (by omega) l 0 (by omega)
    rw [show 2 ^ B - 1 + 1 = 2 ^ B by omega] at this
    exact this
end Go.Proofs.YtbiglifngfgffaaGreatDoor

/- The library's variables that the walks read: kept by whatever leaves old blocks alone. -/
namespace Go.Proofs.YtbiglifngfgffaaGreatDoor
open Go.RowKit

structure Env (w : World) : Prop where
  mx : ∃ m : Int, w.cell? ⟨0, 0, none⟩ = some (.int .i64 m)
  pow : Lib.TabIs Tryz.prog w "internal/strconv.uint64pow10" .u64 Lib.pow10Tab
  db : w.cell? ⟨7, 15, none⟩ = some (.int .u8 4)
  es : ∃ (tp : TypeId) (p : Value), w.cell? ⟨4, 0, none⟩ = some (.iface tp p)
  er : ∃ (tp : TypeId) (p : Value), w.cell? ⟨5, 0, none⟩ = some (.iface tp p)
theorem Env.below {w w' : World} (h : Env w) (hb : Below w.heap.size w w') : Env w' := by
  have c : ∀ {i o : Nat} {v : Value}, w.cell? ⟨i, o, none⟩ = some v → w'.cell? ⟨i, o, none⟩ = some v := fun {i o v} hv => (hb.cell (p := ⟨i, o, none⟩) (World.block_lt_of_cell? w _ hv)).trans hv
  obtain ⟨m, hm⟩ := h.mx
  obtain ⟨t1, p1, h1⟩ := h.es
  obtain ⟨t2, p2, h2⟩ := h.er
  exact ⟨⟨m, c hm⟩, Lib.tabBelow_of_tabIs h.pow w' hb, c h.db, ⟨t1, p1, c h1⟩, ⟨t2, p2, c h2⟩⟩
end Go.Proofs.YtbiglifngfgffaaGreatDoor
