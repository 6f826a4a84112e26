/- Joined out of: BkA BkB. -/
import Derived.Test.YtomndcjgdfhmbaaGreatDoorJag
import Derived.Test.YtomndcjgdfhmbaaGreatDoorJas
import Derived.Test.YtomndcjgdfhmbaaGreatDoorJan
set_option linter.unusedVariables false
set_option linter.unusedSimpArgs false

/- Numbers as bytes, back and forth: the plain law. -/
namespace Go.Proofs.YtomndcjgdfhmbaaGreatDoor

def digs (n x : Nat) : List Nat := (List.range n).map fun j => x / 256 ^ (n - 1 - j) % 256
theorem digs_length (n x : Nat) : (digs n x).length = n := by simp [digs]
theorem digs_succ (n x : Nat) : digs (n + 1) x = (x / 256 ^ n % 256) :: digs n x := by
  unfold digs
  rw [List.range_succ_eq_map, List.map_cons, List.map_map]
  congr 1
  apply List.map_congr_left
  intro j _
  show x / 256 ^ (n + 1 - 1 - (j + 1)) % 256 = _
  rw [show n + 1 - 1 - (j + 1) = n - 1 - j by omega]
theorem valL_from (l : List Nat) : ∀ a, l.foldl (fun x c => x * 256 + c) a = a * 256 ^ l.length + valL l := by
  induction l with
  | nil => intro a; simp [valL]
  | cons c r ih =>
    intro a
    unfold valL
    rw [List.foldl_cons, List.foldl_cons, ih, ih (0 * 256 + c), List.length_cons, Nat.pow_succ, Nat.zero_mul, Nat.zero_add, Nat.add_mul]
    rw [Nat.mul_comm (256 ^ r.length) 256, ← Nat.mul_assoc, Nat.add_assoc]
theorem valL_cons (c : Nat) (l : List Nat) : valL (c :: l) = c * 256 ^ l.length + valL l := by
  have := valL_from l (0 * 256 + c)
  rw [Nat.zero_mul, Nat.zero_add] at this
  unfold valL at *
  rw [List.foldl_cons, Nat.zero_mul, Nat.zero_add]
  exact this
theorem valL_digs : ∀ (n x : Nat), valL (digs n x) = x % 256 ^ n := by
  intro n
  induction n with
  | zero => intro x; simp [digs, valL, Nat.mod_one]
  | succ n ih =>
    intro x
    rw [digs_succ, valL_cons, digs_length, ih, Nat.pow_succ, Nat.mod_mul, Nat.add_comm, Nat.mul_comm (256 ^ n)]
theorem digs_mod (n x y : Nat) : ∀ k, n ≤ k → digs n (x * 256 ^ k + y) = digs n y := by
  induction n with
  | zero => intro k _; rfl
  | succ n ih =>
    intro k hk
    rw [digs_succ, digs_succ, ih k (by omega)]
    congr 1
    have e : x * 256 ^ k = 256 ^ n * (256 * (x * 256 ^ (k - n - 1))) := by
      rw [Nat.mul_left_comm 256 x, Nat.mul_left_comm, ← Nat.mul_assoc (256 ^ n), Nat.mul_comm (256 ^ n) 256, ← Nat.pow_succ', ← Nat.pow_add, show n + 1 + (k - n - 1) = k by omega]
    rw [e, Nat.mul_add_div (Nat.pow_pos (by decide)), Nat.mul_add_mod]
theorem digs_valL : ∀ (l : List Nat), (∀ c ∈ l, c < 256) → digs l.length (valL l) = l := by
  intro l
  induction l with
  | nil => intro _; rfl
  | cons c r ih =>
    intro h
    have hr : valL r < 256 ^ r.length := valL_lt r fun d hd => h d (List.mem_cons_of_mem _ hd)
    have hc := h c (List.mem_cons_self ..)
    rw [List.length_cons, digs_succ, valL_cons, digs_mod _ _ _ _ (Nat.le_refl _), ih fun d hd => h d (List.mem_cons_of_mem _ hd)]
    congr 1
    rw [Nat.mul_comm c, Nat.mul_add_div (Nat.pow_pos (by decide)), Nat.div_eq_of_lt hr]
    omega
theorem nats_be (n x : Nat) : nats (be n x) = digs n x := by
  unfold nats be beL digs
  rw [List.map_map]
  apply List.map_congr_left
  intro j _
  show (UInt8.ofNat _).toNat = _
  rw [UInt8.toNat_ofNat']
  omega
theorem val_be (n x : Nat) (h : x < 256 ^ n) : valB (be n x) = x := by
  unfold valB
  rw [nats_be, valL_digs, Nat.mod_eq_of_lt h]
theorem bytes_ext {a b : ByteArray} (h : nats a = nats b) : a = b := by
  unfold nats at h
  have : a.data.toList = b.data.toList := by
    have := congrArg (List.map UInt8.ofNat) h
    rw [List.map_map, List.map_map] at this
    have e : (UInt8.ofNat ∘ UInt8.toNat) = id := by
      funext c
      simp
    rwa [e, List.map_id, List.map_id] at this
  exact ByteArray.ext (Array.ext' this)
theorem be_val (n : Nat) (t : ByteArray) (h : t.size = n) : be n (valB t) = t := by
  apply bytes_ext
  rw [nats_be, ← h, ← nats_length]
  exact digs_valL _ (nats_lt t)
theorem nats_both (a b : ByteArray) : nats (a ++ b) = nats a ++ nats b := by unfold nats; simp
theorem nats_ext (s : ByteArray) (i j : Nat) : nats (s.extract i j) = ((nats s).take j).drop i := by
  unfold nats
  rw [ByteArray.data_extract, Array.toList_extract]
  simp [List.map_drop, List.map_take, List.drop_take]
theorem nats_lit (l : List UInt8) : nats ⟨l.toArray⟩ = l.map UInt8.toNat := rfl
end Go.Proofs.YtomndcjgdfhmbaaGreatDoor

/- IpBack: packets, back from their bytes, and bytes back from their packets: the plain law. -/
namespace Go.Proofs.YtomndcjgdfhmbaaGreatDoor

theorem digs2 (x : Nat) : digs 2 x = [x / 256 % 256, x % 256] := by
  rw [digs_succ, digs_succ]
  simp [digs]
theorem digs4 (x : Nat) : digs 4 x = [x / 16777216 % 256, x / 65536 % 256, x / 256 % 256, x % 256] := by
  rw [digs_succ, digs_succ, digs_succ, digs_succ]
  simp [digs]
theorem u8n {x : Nat} (h : x < 256) : (UInt8.ofNat x).toNat = x := by
  rw [UInt8.toNat_ofNat']
  omega
theorem mayFour {a : Ad} (h : a.may = true) (h6 : a.v6 = false) : a.hi = 0 ∧ a.lo < 4294967296 := by
  unfold Ad.may at h
  rw [h6] at h
  simpa using h
/- Four: what is written, byte by byte. -/
def list4 (n tt pr S l l' : Nat) : List Nat := [69, 0, (20 + n) / 256 % 256, (20 + n) % 256, 0, 0, 0, 0, tt, pr, S / 256 % 256, S % 256, l / 16777216 % 256, l / 65536 % 256, l / 256 % 256, l % 256, l' / 16777216 % 256, l' / 65536 % 256, l' / 256 % 256, l' % 256]
theorem nats_addr4 {a : Ad} (h6 : a.v6 = false) : nats (addrB a) = digs 4 a.lo := by
  unfold addrB
  rw [h6, if_neg (by decide), nats_be]
theorem nats_front4 {n tt pr : Nat} (h1 : tt < 256) (h2 : pr < 256) : nats (front4 n tt pr) = [69, 0, (20 + n) / 256 % 256, (20 + n) % 256, 0, 0, 0, 0, tt, pr] := by
  unfold front4
  rw [nats_both, nats_both, nats_both, nats_be, digs2]
  show [69, 0] ++ _ ++ [0, 0, 0, 0] ++ [(UInt8.ofNat tt).toNat, (UInt8.ofNat pr).toNat] = _
  rw [u8n h1, u8n h2]
  rfl
theorem nats_enc4 {p : Pk} (ht : p.ttl < 256) (hp : p.proto < 256) (ha : p.a.v6 = false) (hb : p.b.v6 = false) : nats (enc4 p) = list4 p.data.size p.ttl p.proto (sum16 (list4 p.data.size p.ttl p.proto 0 p.a.lo p.b.lo)) p.a.lo p.b.lo ++ nats p.data := by
  have e : sumB (front4 p.data.size p.ttl p.proto ++ ⟨#[0, 0]⟩ ++ (addrB p.a ++ addrB p.b)) = sum16 (list4 p.data.size p.ttl p.proto 0 p.a.lo p.b.lo) := by
    unfold sumB
    rw [nats_both, nats_both, nats_both, nats_front4 ht hp, nats_addr4 ha, nats_addr4 hb, digs4, digs4]
    rfl
  unfold enc4
  rw [e, nats_both, nats_both, nats_both, nats_both, nats_front4 ht hp, nats_addr4 ha, nats_addr4 hb, digs4, digs4, nats_be, digs2]
  rfl
theorem sum_list4 (n tt pr S l l' : Nat) (hS : S < 65536) : ns false (list4 n tt pr S l l') = ns false (list4 n tt pr 0 l l') + S := by
  unfold list4
  simp only [ns, Bool.not_false, Bool.not_true, if_true, if_false, Bool.false_eq_true]
  omega
theorem ns_list4_pos (n tt pr S l l' : Nat) : 0 < ns false (list4 n tt pr S l l') := by
  unfold list4
  simp only [ns, Bool.not_false, Bool.not_true, if_true, if_false, Bool.false_eq_true]
  omega
theorem sum16_lt (l : List Nat) : sum16 l < 65536 := by unfold sum16; omega
theorem sum_list4_zero (n tt pr l l' : Nat) : sum16 (list4 n tt pr (sum16 (list4 n tt pr 0 l l')) l l') = 0 := by
  have e := sum_list4 n tt pr (sum16 (list4 n tt pr 0 l l')) l l' (sum16_lt _)
  have h := @sum_closed (ns false (list4 n tt pr 0 l l'))
  have h2 : sum16 (list4 n tt pr (sum16 (list4 n tt pr 0 l l')) l l') = 65535 - fold (ns false (list4 n tt pr (sum16 (list4 n tt pr 0 l l')) l l')) := rfl
  rw [h2, e]
  have h3 : sum16 (list4 n tt pr 0 l l') = 65535 - fold (ns false (list4 n tt pr 0 l l')) := rfl
  rw [h3, h]
/- There is one sum, but for the two ways to write nought. -/
theorem sum_one {H c : Nat} (h0 : 0 < H) (hc : c < 65536) (hf : c ≠ 65535) (h : 65535 - fold (H + c) = 0) : c = 65535 - fold H := by
  unfold fold at *
  rw [if_neg (by omega)] at *
  omega
theorem valL_two (a b : Nat) : valL [a, b] = a * 256 + b := by simp [valL]
theorem valL_four (a b c d : Nat) : valL [a, b, c, d] = ((a * 256 + b) * 256 + c) * 256 + d := by simp [valL]
theorem valL_one (a : Nat) : valL [a] = a := by simp [valL]
theorem valB_ext (s : ByteArray) (i j : Nat) : valB (s.extract i j) = valL (((nats s).take j).drop i) := by unfold valB; rw [nats_ext]
theorem size_nats (s : ByteArray) : s.size = (nats s).length := (nats_length s).symm
theorem size_enc4 {p : Pk} (ht : p.ttl < 256) (hp : p.proto < 256) (ha : p.a.v6 = false) (hb : p.b.v6 = false) : (enc4 p).size = 20 + p.data.size := by
  rw [size_nats, nats_enc4 ht hp ha hb, List.length_append, nats_length]
  rfl
/- A packet of four is read as itself. -/
theorem back4 {p : Pk} (ok : p.Ok) (hm : p.mayE = 0) (h6 : p.a.v6 = false) : decE (enc4 p) = 0 ∧ decP (enc4 p) = p := by
  have hb6 : p.b.v6 = false := (mayE_v6 hm).trans h6
  unfold Pk.mayE at hm
  split at hm
  · cases hm
  next hn =>
  split at hm
  · cases hm
  next hz =>
  clear hm
  simp only [Bool.not_eq_true, Bool.or_eq_false_iff, Bool.not_eq_false'] at hn
  obtain ⟨ha1, ha2⟩ := mayFour hn.1.1 h6
  obtain ⟨hb1, hb2⟩ := mayFour hn.1.2 hb6
  have hsz : p.data.size ≤ 1480 := by unfold Pk.head at hz; rw [h6, if_neg (by decide)] at hz; omega
  have E := nats_enc4 ok.ttl ok.proto h6 hb6
  have Z := size_enc4 ok.ttl ok.proto h6 hb6
  have S0 := sum_list4_zero p.data.size p.ttl p.proto p.a.lo p.b.lo
  have hS := sum16_lt (list4 p.data.size p.ttl p.proto 0 p.a.lo p.b.lo)
  generalize sum16 (list4 p.data.size p.ttl p.proto 0 p.a.lo p.b.lo) = S at E S0 hS
  generalize enc4 p = s at E Z
  have v0 : valB (s.extract 0 1) = 69 := by rw [valB_ext, E]; unfold list4; exact valL_one 69
  have v2 : valB (s.extract 2 4) = 20 + p.data.size := by rw [valB_ext, E]; unfold list4; refine (valL_two _ _).trans ?_; omega
  have v6 : valB (s.extract 6 8) = 0 := by rw [valB_ext, E]; unfold list4; exact valL_two 0 0
  have v8 : valB (s.extract 8 9) = p.ttl := by rw [valB_ext, E]; unfold list4; exact valL_one _
  have v9 : valB (s.extract 9 10) = p.proto := by rw [valB_ext, E]; unfold list4; exact valL_one _
  have v12 : valB (s.extract 12 16) = p.a.lo := by rw [valB_ext, E]; unfold list4; refine (valL_four _ _ _ _).trans ?_; omega
  have v16 : valB (s.extract 16 20) = p.b.lo := by rw [valB_ext, E]; unfold list4; refine (valL_four _ _ _ _).trans ?_; omega
  have vd : s.extract 20 s.size = p.data := by
    apply bytes_ext
    rw [nats_ext, size_nats s, List.take_length, E]
    unfold list4
    rfl
  have vs : sumB (s.extract 0 20) = 0 := by
    unfold sumB
    rw [nats_ext, E]
    exact S0
  constructor
  · unfold decE rfourE rfourA fourE
    rw [v0, v2, v6, vs, if_neg (by omega), if_neg (by omega), if_pos (by decide), if_neg (by omega), if_neg (by decide), if_neg (by omega), if_neg (by decide), if_neg (by decide)]
  · unfold decP fourP
    rw [v0, if_pos (by decide), v8, v9, v12, v16, vd]
    obtain ⟨⟨_, _, _⟩, ⟨_, _, _⟩, _, _, _⟩ := p
    simp only at h6 hb6 ha1 hb1 ⊢
    subst h6 hb6 ha1 hb1
    rfl
theorem cons_of {L : List Nat} {n : Nat} (h : n + 1 ≤ L.length) : ∃ c R, L = c :: R ∧ n ≤ R.length := by
  cases L with
  | nil => exact absurd h (by simp)
  | cons c R => exact ⟨c, R, rfl, by simpa using h⟩
theorem list20 {L : List Nat} (h : 20 ≤ L.length) : ∃ c0 c1 c2 c3 c4 c5 c6 c7 c8 c9 c10 c11 c12 c13 c14 c15 c16 c17 c18 c19 R, L = c0 :: c1 :: c2 :: c3 :: c4 :: c5 :: c6 :: c7 :: c8 :: c9 :: c10 :: c11 :: c12 :: c13 :: c14 :: c15 :: c16 :: c17 :: c18 :: c19 :: R := by
  obtain ⟨c0, L1, rfl, h1⟩ := cons_of (n := 19) h
  obtain ⟨c1, L2, rfl, h2⟩ := cons_of (n := 18) h1
  obtain ⟨c2, L3, rfl, h3⟩ := cons_of (n := 17) h2
  obtain ⟨c3, L4, rfl, h4⟩ := cons_of (n := 16) h3
  obtain ⟨c4, L5, rfl, h5⟩ := cons_of (n := 15) h4
  obtain ⟨c5, L6, rfl, h6⟩ := cons_of (n := 14) h5
  obtain ⟨c6, L7, rfl, h7⟩ := cons_of (n := 13) h6
  obtain ⟨c7, L8, rfl, h8⟩ := cons_of (n := 12) h7
  obtain ⟨c8, L9, rfl, h9⟩ := cons_of (n := 11) h8
  obtain ⟨c9, L10, rfl, h10⟩ := cons_of (n := 10) h9
  obtain ⟨c10, L11, rfl, h11⟩ := cons_of (n := 9) h10
  obtain ⟨c11, L12, rfl, h12⟩ := cons_of (n := 8) h11
  obtain ⟨c12, L13, rfl, h13⟩ := cons_of (n := 7) h12
  obtain ⟨c13, L14, rfl, h14⟩ := cons_of (n := 6) h13
  obtain ⟨c14, L15, rfl, h15⟩ := cons_of (n := 5) h14
  obtain ⟨c15, L16, rfl, h16⟩ := cons_of (n := 4) h15
  obtain ⟨c16, L17, rfl, h17⟩ := cons_of (n := 3) h16
  obtain ⟨c17, L18, rfl, h18⟩ := cons_of (n := 2) h17
  obtain ⟨c18, L19, rfl, h19⟩ := cons_of (n := 1) h18
  obtain ⟨c19, L20, rfl, h20⟩ := cons_of (n := 0) h19
  exact ⟨_, _, _, _, _, _, _, _, _, _, _, _, _, _, _, _, _, _, _, _, _, rfl⟩
/- What a read packet is: of four, or of six. -/
theorem dec_kinds {s : ByteArray} (h : decE s = 0) : s.size ≤ 1500 ∧ s.size ≠ 0 ∧ ((valB (s.extract 0 1) = 69 ∧ 20 ≤ s.size ∧ fourE s = 0 ∧ decP s = fourP s) ∨ (valB (s.extract 0 1) / 16 = 6 ∧ 40 ≤ s.size ∧ sixE s = 0 ∧ decP s = sixP s)) := by
  unfold decE rfourE rfourA rsixE at h
  split at h
  · cases h
  split at h
  · cases h
  refine ⟨by omega, by omega, ?_⟩
  unfold decP
  split at h
  · next h4 =>
    left
    rw [if_pos h4]
    split at h
    · cases h
    split at h
    · cases h
    exact ⟨by omega, by omega, h, rfl⟩
  · next h4 =>
    split at h
    · next h6 =>
      right
      rw [if_neg h4]
      split at h
      · cases h
      exact ⟨h6, by omega, h, rfl⟩
    · cases h
theorem fourE_0 {s : ByteArray} (h : fourE s = 0) : valB (s.extract 2 4) = s.size ∧ sumB (s.extract 0 20) = 0 := by
  unfold fourE at h
  split at h
  · cases h
  next h1 =>
  split at h
  · cases h
  next h2 => exact ⟨by omega, by omega⟩
theorem sixE_0 {s : ByteArray} (h : sixE s = 0) : valB (s.extract 4 6) = s.size - 40 := by
  unfold sixE at h
  split at h
  · cases h
  next h1 => omega
theorem valB_lt_of {s : ByteArray} {i j n : Nat} (h : j = i + n) : valB (s.extract i j) < 256 ^ n := by
  have h1 := valB_lt (s.extract i j)
  have h2 : 256 ^ (s.extract i j).size ≤ 256 ^ n := Nat.pow_le_pow_right (by decide) (by rw [ByteArray.size_extract]; omega)
  omega
theorem fourP_ok (s : ByteArray) (hs : s.size ≤ 1500) : (fourP s).Ok := by
  have h1 := @valB_lt_of s 12 16 4 rfl
  have h2 := @valB_lt_of s 16 20 4 rfl
  have h3 := @valB_lt_of s 9 10 1 rfl
  have h4 := @valB_lt_of s 8 9 1 rfl
  refine ⟨⟨?_, ?_⟩, ⟨?_, ?_⟩, ?_, ?_, ?_⟩
  all_goals simp only [fourP]
  all_goals first | omega | (rw [ByteArray.size_extract]; omega)
theorem sixP_ok (s : ByteArray) (hs : s.size ≤ 1500) : (sixP s).Ok := by
  have h1 := @valB_lt_of s 8 16 8 rfl
  have h2 := @valB_lt_of s 16 24 8 rfl
  have h3 := @valB_lt_of s 24 32 8 rfl
  have h4 := @valB_lt_of s 32 40 8 rfl
  have h5 := @valB_lt_of s 6 7 1 rfl
  have h6 := @valB_lt_of s 7 8 1 rfl
  refine ⟨⟨?_, ?_⟩, ⟨?_, ?_⟩, ?_, ?_, ?_⟩
  all_goals simp only [sixP]
  all_goals first | omega | (rw [ByteArray.size_extract]; omega)
theorem decP_ok {s : ByteArray} (h : decE s = 0) : (decP s).Ok := by
  obtain ⟨h1, _, ⟨_, _, _, e⟩ | ⟨_, _, _, e⟩⟩ := dec_kinds h
  · rw [e]; exact fourP_ok s h1
  · rw [e]; exact sixP_ok s h1
theorem fourP_may {s : ByteArray} (h1 : 20 ≤ s.size) (h2 : s.size ≤ 1500) : (fourP s).mayE = 0 := by
  have h3 := @valB_lt_of s 12 16 4 rfl
  have h4 := @valB_lt_of s 16 20 4 rfl
  unfold Pk.mayE
  rw [if_neg, if_neg]
  · unfold Pk.head
    simp only [fourP, Bool.false_eq_true, if_false, ByteArray.size_extract]
    omega
  · have e1 : (fourP s).a.may = true := by
      show (false || (decide (0 = 0) && decide (valB (s.extract 12 16) < 4294967296))) = true
      simp
      omega
    have e2 : (fourP s).b.may = true := by
      show (false || (decide (0 = 0) && decide (valB (s.extract 16 20) < 4294967296))) = true
      simp
      omega
    rw [e1, e2]
    simp [fourP]
theorem sixP_may {s : ByteArray} (h1 : 40 ≤ s.size) (h2 : s.size ≤ 1500) : (sixP s).mayE = 0 := by
  unfold Pk.mayE
  rw [if_neg, if_neg]
  · unfold Pk.head
    simp only [sixP, if_true, ByteArray.size_extract]
    omega
  · simp [sixP, Ad.may]
theorem decP_may {s : ByteArray} (h : decE s = 0) : (decP s).mayE = 0 := by
  obtain ⟨h1, _, ⟨_, h2, _, e⟩ | ⟨_, h2, _, e⟩⟩ := dec_kinds h
  · rw [e]; exact fourP_may h2 h1
  · rw [e]; exact sixP_may h2 h1
theorem size_enc6 {p : Pk} (ha : p.a.v6 = true) (hb : p.b.v6 = true) : (enc6 p).size = 40 + p.data.size := by
  have e1 : (addrB p.a).size = 16 := by unfold addrB; rw [ha, if_pos rfl, ByteArray.size_append, be_size, be_size]
  have e2 : (addrB p.b).size = 16 := by unfold addrB; rw [hb, if_pos rfl, ByteArray.size_append, be_size, be_size]
  unfold enc6
  rw [ByteArray.size_append, ByteArray.size_append, ByteArray.size_append, ByteArray.size_append, ByteArray.size_append, be_size, e1, e2]
  show 4 + 2 + 2 + 16 + 16 + _ = _
  omega
theorem tail_app (a b : ByteArray) : (a ++ b).extract a.size (a ++ b).size = b := by
  apply bytes_ext
  rw [nats_ext, size_nats (a ++ b), List.take_length, nats_both, size_nats, List.drop_left]
theorem tail_of {s b : ByteArray} {k : Nat} (a : ByteArray) (h : s = a ++ b) (hs : s.size = k + b.size) : s.extract k s.size = b := by
  subst h
  have : k = a.size := by rw [ByteArray.size_append] at hs; omega
  subst this
  exact tail_app a b
/- A packet that was read, written: as long, and its data behind its head. -/
theorem again_size {s : ByteArray} (h : decE s = 0) : (encB (decP s)).size = s.size ∧ (decP s).data.size ≤ s.size ∧ (encB (decP s)).extract (s.size - (decP s).data.size) s.size = (decP s).data := by
  have hm := decP_may h
  unfold encB
  rw [if_neg (by omega)]
  obtain ⟨h1, _, ⟨_, h2, _, e⟩ | ⟨_, h2, _, e⟩⟩ := dec_kinds h
  · have ok := fourP_ok s h1
    rw [e, if_neg (by simp [fourP])]
    have hz := size_enc4 ok.ttl ok.proto (rfl : (fourP s).a.v6 = false) (rfl : (fourP s).b.v6 = false)
    have hd : (fourP s).data.size = s.size - 20 := by simp only [fourP, ByteArray.size_extract]; omega
    have hz2 : (enc4 (fourP s)).size = s.size := by omega
    refine ⟨hz2, by omega, ?_⟩
    have := tail_of (k := 20) _ (rfl : enc4 (fourP s) = _) hz
    rwa [hz2, show 20 = s.size - (fourP s).data.size by omega] at this
  · rw [e, if_pos (by simp [sixP])]
    have hz := size_enc6 (rfl : (sixP s).a.v6 = true) (rfl : (sixP s).b.v6 = true)
    have hd : (sixP s).data.size = s.size - 40 := by simp only [sixP, ByteArray.size_extract]; omega
    have hz2 : (enc6 (sixP s)).size = s.size := by omega
    refine ⟨hz2, by omega, ?_⟩
    have := tail_of (k := 40) _ (rfl : enc6 (sixP s) = _) hz
    rwa [hz2, show 40 = s.size - (sixP s).data.size by omega] at this
theorem two_div {a b : Nat} (ha : a < 256) (hb : b < 256) : (a * 256 + b) / 256 % 256 = a ∧ (a * 256 + b) % 256 = b := by omega
theorem four_div {a b c d : Nat} (ha : a < 256) (hb : b < 256) (hc : c < 256) (hd : d < 256) : (((a * 256 + b) * 256 + c) * 256 + d) / 16777216 % 256 = a ∧ (((a * 256 + b) * 256 + c) * 256 + d) / 65536 % 256 = b ∧ (((a * 256 + b) * 256 + c) * 256 + d) / 256 % 256 = c ∧ (((a * 256 + b) * 256 + c) * 256 + d) % 256 = d := by
  refine ⟨?_, ?_, ?_, ?_⟩ <;> omega
set_option maxHeartbeats 4000000 in
theorem again4 {s : ByteArray} (h : decE s = 0) (h0 : bt s 0 = 69) (h1 : bt s 1 = 0) (h2 : s.extract 4 8 = ⟨#[0, 0, 0, 0]⟩) (h3 : s.extract 10 12 ≠ ⟨#[255, 255]⟩) : encB (decP s) = s := by
  have hm := decP_may h
  unfold encB
  rw [if_neg (by omega)]
  obtain ⟨hz, _, ⟨hb, h20, hE, e⟩ | ⟨hb, h40, hE, e⟩⟩ := dec_kinds h
  · have ok := fourP_ok s hz
    obtain ⟨f1, f2⟩ := fourE_0 hE
    rw [e, if_neg (by simp [fourP])]
    apply bytes_ext
    have E := nats_enc4 ok.ttl ok.proto (rfl : (fourP s).a.v6 = false) (rfl : (fourP s).b.v6 = false)
    rw [E]
    have hd : (fourP s).data.size = s.size - 20 := by simp only [fourP, ByteArray.size_extract]; omega
    obtain ⟨c0, c1, c2, c3, c4, c5, c6, c7, c8, c9, c10, c11, c12, c13, c14, c15, c16, c17, c18, c19, R, hL⟩ := list20 (by rw [nats_length]; exact h20 : 20 ≤ (nats s).length)
    have hlt := nats_lt s
    rw [hL] at hlt
    simp only [List.mem_cons, forall_eq_or_imp] at hlt
    obtain ⟨l0, l1, l2, l3, l4, l5, l6, l7, l8, l9, l10, l11, l12, l13, l14, l15, l16, l17, l18, l19, _⟩ := hlt
    have g0 : c0 = 69 := by unfold bt at h0; rw [hL] at h0; exact h0
    have g1 : c1 = 0 := by unfold bt at h1; rw [hL] at h1; exact h1
    have g2 := congrArg nats h2
    rw [nats_ext, hL] at g2
    have g2' : [c4, c5, c6, c7] = [0, 0, 0, 0] := g2
    clear g2
    simp only [List.cons.injEq, and_true] at g2'
    obtain ⟨g4, g5, g6, g7⟩ := g2'
    have g3 : c10 * 256 + c11 ≠ 65535 := by
      intro hc
      apply h3
      apply bytes_ext
      rw [nats_ext, hL]
      show [c10, c11] = [255, 255]
      rw [show c10 = 255 by omega, show c11 = 255 by omega]
    have w2 : valB (s.extract 2 4) = c2 * 256 + c3 := by rw [valB_ext, hL]; exact valL_two _ _
    have w8 : (fourP s).ttl = c8 := by show valB (s.extract 8 9) = _; rw [valB_ext, hL]; exact valL_one _
    have w9 : (fourP s).proto = c9 := by show valB (s.extract 9 10) = _; rw [valB_ext, hL]; exact valL_one _
    have w12 : (fourP s).a.lo = ((c12 * 256 + c13) * 256 + c14) * 256 + c15 := by show valB (s.extract 12 16) = _; rw [valB_ext, hL]; exact valL_four _ _ _ _
    have w16 : (fourP s).b.lo = ((c16 * 256 + c17) * 256 + c18) * 256 + c19 := by show valB (s.extract 16 20) = _; rw [valB_ext, hL]; exact valL_four _ _ _ _
    have wd : nats (fourP s).data = R := by
      show nats (s.extract 20 s.size) = _
      rw [nats_ext, size_nats s, List.take_length, hL]
      rfl
    rw [w2] at f1
    have hn : 20 + (fourP s).data.size = c2 * 256 + c3 := by omega
    obtain ⟨d2, d3⟩ := two_div l2 l3
    obtain ⟨d12, d13, d14, d15⟩ := four_div l12 l13 l14 l15
    obtain ⟨d16, d17, d18, d19⟩ := four_div l16 l17 l18 l19
    have hl : ∀ S, list4 (fourP s).data.size (fourP s).ttl (fourP s).proto S (fourP s).a.lo (fourP s).b.lo = [69, 0, c2, c3, 0, 0, 0, 0, c8, c9, S / 256 % 256, S % 256, c12, c13, c14, c15, c16, c17, c18, c19] := by
      intro S
      unfold list4
      rw [hn, w8, w9, w12, w16, d2, d3, d12, d13, d14, d15, d16, d17, d18, d19]
    have hs : sum16 (list4 (fourP s).data.size (fourP s).ttl (fourP s).proto 0 (fourP s).a.lo (fourP s).b.lo) = c10 * 256 + c11 := by
      have p := ns_list4_pos (fourP s).data.size (fourP s).ttl (fourP s).proto 0 (fourP s).a.lo (fourP s).b.lo
      have q := sum_list4 (fourP s).data.size (fourP s).ttl (fourP s).proto (c10 * 256 + c11) (fourP s).a.lo (fourP s).b.lo (by omega)
      symm
      apply sum_one p (by omega) g3
      rw [← q, hl, (two_div l10 l11).1, (two_div l10 l11).2]
      unfold sumB sum16 at f2
      rw [nats_ext, hL, g0, g1, g4, g5, g6, g7] at f2
      exact f2
    rw [hs, hl, wd, hL, (two_div l10 l11).1, (two_div l10 l11).2, g0, g1, g4, g5, g6, g7]
    rfl
  · exfalso
    have : valB (s.extract 0 1) = bt s 0 := by
      rw [valB_ext]
      unfold bt
      have : 1 ≤ (nats s).length := by rw [nats_length]; omega
      cases hL : nats s with
      | nil => rw [hL] at this; exact absurd this (by decide)
      | cons c R => exact valL_one c
    omega
theorem ext_app (s : ByteArray) {i j k : Nat} (h1 : i ≤ j) (h2 : j ≤ k) : s.extract i j ++ s.extract j k = s.extract i k := by
  apply bytes_ext
  rw [nats_both, nats_ext, nats_ext, nats_ext]
  have e : (nats s).take j = ((nats s).take k).take j := by rw [List.take_take, Nat.min_eq_left h2]
  rw [e]
  generalize (nats s).take k = L
  have e2 : L.drop j = (L.drop i).drop (j - i) := by rw [List.drop_drop, show i + (j - i) = j by omega]
  rw [e2, List.drop_take]
  exact List.take_append_drop _ _
theorem one_byte (s : ByteArray) (i : Nat) (h : i < s.size) : (⟨#[UInt8.ofNat (valB (s.extract i (i + 1)))]⟩ : ByteArray) = s.extract i (i + 1) := by
  have h1 := @valB_lt_of s i (i + 1) 1 rfl
  have h2 := be_val 1 (s.extract i (i + 1)) (by rw [ByteArray.size_extract]; omega)
  apply bytes_ext
  rw [← h2, nats_be, h2]
  show [(UInt8.ofNat _).toNat] = _
  rw [u8n (by omega), digs_succ]
  simp [digs]
  omega
theorem again6 {s : ByteArray} (h : decE s = 0) (h0 : bt s 0 = 96) (h1 : bt s 1 = 0) (h2 : bt s 2 = 0) (h3 : bt s 3 = 0) : encB (decP s) = s := by
  have hm := decP_may h
  unfold encB
  rw [if_neg (by omega)]
  have hv : s.size ≠ 0 → valB (s.extract 0 1) = bt s 0 := by
    intro hz
    rw [valB_ext]
    unfold bt
    have : 1 ≤ (nats s).length := by rw [nats_length]; omega
    cases hL : nats s with
    | nil => rw [hL] at this; exact absurd this (by decide)
    | cons c R => exact valL_one c
  obtain ⟨hz, hz0, ⟨hb, h20, hE, e⟩ | ⟨hb, h40, hE, e⟩⟩ := dec_kinds h
  · have := hv hz0; omega
  · have f := sixE_0 hE
    rw [e, if_pos (by simp [sixP])]
    have e0 : (⟨#[96, 0, 0, 0]⟩ : ByteArray) = s.extract 0 4 := by
      apply bytes_ext
      rw [nats_ext]
      have hl : 4 ≤ (nats s).length := by rw [nats_length]; omega
      obtain ⟨c0, L1, e1, hl⟩ := cons_of (n := 3) hl
      obtain ⟨c1, L2, e2, hl⟩ := cons_of (n := 2) hl
      obtain ⟨c2, L3, e3, hl⟩ := cons_of (n := 1) hl
      obtain ⟨c3, L4, e4, hl⟩ := cons_of (n := 0) hl
      subst e2 e3 e4
      unfold bt at h0 h1 h2 h3
      rw [e1] at h0 h1 h2 h3 ⊢
      show [96, 0, 0, 0] = [c0, c1, c2, c3]
      rw [show c0 = 96 from h0, show c1 = 0 from h1, show c2 = 0 from h2, show c3 = 0 from h3]
    have sz : ∀ i n, i + n ≤ 40 → (s.extract i (i + n)).size = n := by intro i n hi; rw [ByteArray.size_extract]; omega
    have hn : (sixP s).data.size = valB (s.extract 4 6) := by
      rw [f]
      simp only [sixP, ByteArray.size_extract]
      omega
    have ht : (⟨#[UInt8.ofNat (sixP s).proto, UInt8.ofNat (sixP s).ttl]⟩ : ByteArray) = s.extract 6 8 := by
      rw [← ext_app s (show 6 ≤ 7 by decide) (show 7 ≤ 8 by decide), ← one_byte s 6 (by omega), ← one_byte s 7 (by omega)]
      rfl
    unfold enc6
    rw [hn, e0, ht]
    unfold addrB
    have a6 : (sixP s).a.v6 = true := rfl
    have b6 : (sixP s).b.v6 = true := rfl
    rw [if_pos a6, if_pos b6]
    show s.extract 0 4 ++ be 2 (valB (s.extract 4 6)) ++ s.extract 6 8 ++ (be 8 (valB (s.extract 8 16)) ++ be 8 (valB (s.extract 16 24))) ++ (be 8 (valB (s.extract 24 32)) ++ be 8 (valB (s.extract 32 40))) ++ s.extract 40 s.size = s
    rw [be_val 2 _ (sz 4 2 (by decide)), be_val 8 _ (sz 8 8 (by decide)), be_val 8 _ (sz 16 8 (by decide)), be_val 8 _ (sz 24 8 (by decide)), be_val 8 _ (sz 32 8 (by decide))]
    rw [ext_app s (by decide) (by decide), ext_app s (by decide) (by decide), ext_app s (by decide) (by decide), ext_app s (by decide) (by decide), ext_app s (by decide) (by decide), ext_app s (by decide) (by decide), ext_app s (by decide) h40]
    apply bytes_ext
    rw [nats_ext, size_nats s, List.take_length]
    rfl
/- A packet of six is read as itself, or not at all. -/
theorem back6 {p : Pk} (ok : p.Ok) (hm : p.mayE = 0) (h6 : p.a.v6 = true) : decE (encB p) = 133 ∨ (decE (encB p) = 0 ∧ decP (encB p) = p) := by
  have hb6 : p.b.v6 = true := (mayE_v6 hm).trans h6
  have hE : encB p = enc6 p := by unfold encB; rw [if_neg (by omega), if_pos h6]
  unfold Pk.mayE at hm
  split at hm
  · cases hm
  split at hm
  · cases hm
  next hz =>
  have hsz : p.data.size ≤ 1460 := by unfold Pk.head at hz; rw [h6, if_pos rfl] at hz; omega
  have Z := size_enc6 h6 hb6
  have E : nats (enc6 p) = [96, 0, 0, 0] ++ (digs 2 p.data.size ++ ([p.proto, p.ttl] ++ (digs 8 p.a.hi ++ (digs 8 p.a.lo ++ (digs 8 p.b.hi ++ (digs 8 p.b.lo ++ nats p.data)))))) := by
    unfold enc6 addrB
    rw [if_pos h6, if_pos hb6]
    simp only [nats_both, nats_be, List.append_assoc]
    show [96, 0, 0, 0] ++ (_ ++ ([(UInt8.ofNat p.proto).toNat, (UInt8.ofNat p.ttl).toNat] ++ _)) = _
    rw [u8n ok.proto, u8n ok.ttl]
  rw [hE]
  generalize enc6 p = s at E Z
  have cut : ∀ (i n : Nat) (A B C : List Nat), nats s = A ++ (B ++ C) → A.length = i → B.length = n → valB (s.extract i (i + n)) = valL B := by
    intro i n A B C e h1 h2
    rw [valB_ext, e, ← h1, ← h2, ← List.append_assoc, ← List.length_append, List.take_left, List.drop_left]
  have v0 : valB (s.extract 0 1) = 96 := (cut 0 1 [] [96] _ E rfl rfl).trans (valL_one 96)
  have v4 : valB (s.extract 4 6) = p.data.size := (cut 4 2 _ _ _ E rfl (digs_length ..)).trans ((valL_digs ..).trans (by omega))
  have E6 : nats s = ([96, 0, 0, 0] ++ digs 2 p.data.size) ++ ([p.proto] ++ ([p.ttl] ++ (digs 8 p.a.hi ++ (digs 8 p.a.lo ++ (digs 8 p.b.hi ++ (digs 8 p.b.lo ++ nats p.data)))))) := by rw [E]; simp
  have v6 : valB (s.extract 6 7) = p.proto := (cut 6 1 _ _ _ E6 (by simp [digs_length]) rfl).trans (valL_one _)
  have E7 : nats s = ([96, 0, 0, 0] ++ digs 2 p.data.size ++ [p.proto]) ++ ([p.ttl] ++ (digs 8 p.a.hi ++ (digs 8 p.a.lo ++ (digs 8 p.b.hi ++ (digs 8 p.b.lo ++ nats p.data))))) := by rw [E]; simp
  have v7 : valB (s.extract 7 8) = p.ttl := (cut 7 1 _ _ _ E7 (by simp [digs_length]) rfl).trans (valL_one _)
  have E8 : nats s = ([96, 0, 0, 0] ++ digs 2 p.data.size ++ [p.proto, p.ttl]) ++ (digs 8 p.a.hi ++ (digs 8 p.a.lo ++ (digs 8 p.b.hi ++ (digs 8 p.b.lo ++ nats p.data)))) := by rw [E]; simp
  have v8 : valB (s.extract 8 16) = p.a.hi := (cut 8 8 _ _ _ E8 (by simp [digs_length]) (digs_length ..)).trans ((valL_digs ..).trans (Nat.mod_eq_of_lt ok.a.hi))
  have E16 : nats s = ([96, 0, 0, 0] ++ digs 2 p.data.size ++ [p.proto, p.ttl] ++ digs 8 p.a.hi) ++ (digs 8 p.a.lo ++ (digs 8 p.b.hi ++ (digs 8 p.b.lo ++ nats p.data))) := by rw [E]; simp
  have v16 : valB (s.extract 16 24) = p.a.lo := (cut 16 8 _ _ _ E16 (by simp [digs_length]) (digs_length ..)).trans ((valL_digs ..).trans (Nat.mod_eq_of_lt ok.a.lo))
  have E24 : nats s = ([96, 0, 0, 0] ++ digs 2 p.data.size ++ [p.proto, p.ttl] ++ digs 8 p.a.hi ++ digs 8 p.a.lo) ++ (digs 8 p.b.hi ++ (digs 8 p.b.lo ++ nats p.data)) := by rw [E]; simp
  have v24 : valB (s.extract 24 32) = p.b.hi := (cut 24 8 _ _ _ E24 (by simp [digs_length]) (digs_length ..)).trans ((valL_digs ..).trans (Nat.mod_eq_of_lt ok.b.hi))
  have E32 : nats s = ([96, 0, 0, 0] ++ digs 2 p.data.size ++ [p.proto, p.ttl] ++ digs 8 p.a.hi ++ digs 8 p.a.lo ++ digs 8 p.b.hi) ++ (digs 8 p.b.lo ++ nats p.data) := by rw [E]; simp
  have v32 : valB (s.extract 32 40) = p.b.lo := (cut 32 8 _ _ _ E32 (by simp [digs_length]) (digs_length ..)).trans ((valL_digs ..).trans (Nat.mod_eq_of_lt ok.b.lo))
  have E40 : nats s = ([96, 0, 0, 0] ++ digs 2 p.data.size ++ [p.proto, p.ttl] ++ digs 8 p.a.hi ++ digs 8 p.a.lo ++ digs 8 p.b.hi ++ digs 8 p.b.lo) ++ nats p.data := by rw [E]; simp
  have vd : s.extract 40 s.size = p.data := by
    apply bytes_ext
    rw [nats_ext, size_nats s, List.take_length, E40]
    exact List.drop_left' (by simp [digs_length])
  have hd0 : decE s = sixE s := by
    unfold decE rsixE
    rw [if_neg (by omega), if_neg (by omega), v0, if_neg (by decide), if_pos (by decide), if_neg (by omega)]
  rw [hd0]
  unfold sixE
  rw [v4, if_neg (by omega), v6]
  split
  · exact Or.inl rfl
  · right
    refine ⟨rfl, ?_⟩
    unfold decP sixP
    rw [v0, if_neg (by decide), v8, v16, v24, v32, v6, v7, vd]
    obtain ⟨⟨_, _, _⟩, ⟨_, _, _⟩, _, _, _⟩ := p
    simp only at h6 hb6 ⊢
    subst h6 hb6
    rfl
theorem back_pk {p : Pk} (ok : p.Ok) (hm : p.mayE = 0) : (p.a.v6 = true ∧ decE (encB p) = 133) ∨ (decE (encB p) = 0 ∧ decP (encB p) = p) := by
  cases h6 : p.a.v6 with
  | true => exact (back6 ok hm h6).imp (fun h => ⟨rfl, h⟩) id
  | false =>
    right
    have e : encB p = enc4 p := by unfold encB; rw [if_neg (by omega), h6, if_neg (by decide)]
    rw [e]
    exact back4 ok hm h6
end Go.Proofs.YtomndcjgdfhmbaaGreatDoor
