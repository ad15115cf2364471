/- The sum of 32 bits in plain Lean: bit by bit, by a table of bytes; it is linear, and tells any turned bits that are all within thirty-two next to one another. No condition; no program in sight. -/
import Derived.Test.YtdemkcnhcgiheaaN
namespace Go.Proofs.Ytdemkcnhcgiheaa
abbrev Reg := BitVec 32
def poly : Reg := 0x82f63b78#32
/-- one step of the register -/
def stp (x : Reg) : Reg := if x.getLsbD 0 then (x >>> 1) ^^^ poly else x >>> 1
theorem stp_xor (x y : Reg) : stp (x ^^^ y) = stp x ^^^ stp y := by
  unfold stp
  rw [BitVec.getLsbD_xor, BitVec.ushiftRight_xor_distrib]
  cases hx : x.getLsbD 0 <;> cases hy : y.getLsbD 0 <;> simp
  · rw [BitVec.xor_assoc]
  · rw [BitVec.xor_assoc, BitVec.xor_assoc, BitVec.xor_comm poly]
  · rw [BitVec.xor_assoc, BitVec.xor_comm poly, BitVec.xor_assoc, BitVec.xor_self, BitVec.xor_zero]
theorem stp_zero : stp 0 = 0 := by decide
theorem stp_top (x : Reg) : (stp x).getLsbD 31 = x.getLsbD 0 := by
  unfold stp
  cases hx : x.getLsbD 0
  · simp
  · simp; decide
theorem stp_inj {x : Reg} (h : stp x = 0) : x = 0 := by
  have h0 : x.getLsbD 0 = false := by rw [← stp_top, h]; simp
  have h1 : x >>> 1 = 0 := by rw [stp, h0] at h; exact h
  apply BitVec.eq_of_getLsbD_eq
  intro i hi
  match i with
  | 0 => rw [h0]; simp
  | i + 1 =>
    have := congrArg (fun z : Reg => z.getLsbD i) h1
    simp [BitVec.getLsbD_ushiftRight] at this
    rw [Nat.add_comm 1 i] at this
    simp [this]
/-- k steps -/
def stps : Nat → Reg → Reg
  | 0, x => x
  | k + 1, x => stp (stps k x)
theorem stps_xor (k : Nat) (x y : Reg) : stps k (x ^^^ y) = stps k x ^^^ stps k y := by
  induction k with
  | zero => rfl
  | succ k ih => simp only [stps, ih, stp_xor]
theorem stps_zero (k : Nat) : stps k 0 = 0 := by
  induction k with
  | zero => rfl
  | succ k ih => simp only [stps, ih, stp_zero]
theorem stps_inj {k : Nat} {x : Reg} (h : stps k x = 0) : x = 0 := by
  induction k with
  | zero => exact h
  | succ k ih => exact ih (stp_inj h)
theorem stps_add (a b : Nat) (x : Reg) : stps (a + b) x = stps a (stps b x) := by
  induction a with
  | zero => simp [stps]
  | succ a ih => rw [Nat.add_right_comm]; simp only [stps, ih]

/-- a bit as a register -/
def ofBit (b : Bool) : Reg := if b then 1 else 0
def bitIn (r : Reg) (b : Bool) : Reg := stp (r ^^^ ofBit b)
def bitsIn (r : Reg) (l : List Bool) : Reg := l.foldl bitIn r
theorem bitIn_xor (r q : Reg) (a b : Bool) : bitIn (r ^^^ q) (a ^^ b) = bitIn r a ^^^ bitIn q b := by
  unfold bitIn
  rw [← stp_xor]
  congr 1
  have : ofBit (a ^^ b) = ofBit a ^^^ ofBit b := by cases a <;> cases b <;> decide
  rw [this]
  simp only [BitVec.xor_assoc]
  congr 1
  rw [← BitVec.xor_assoc, BitVec.xor_comm q, BitVec.xor_assoc]

/-- a byte's bits, the lowest one first -/
def bitsOf (c : UInt8) : List Bool := (List.range 8).map fun k => c.toNat.testBit k
def byteIn (r : Reg) (c : UInt8) : Reg := bitsIn r (bitsOf c)
def bytesIn (r : Reg) (l : Bs) : Reg := l.foldl byteIn r
def sum32 (l : Bs) : Reg := ~~~ bytesIn (~~~ 0) l
/-- a number's four bytes, the lowest first -/
def le4 (x : Reg) : Bs := [UInt8.ofNat x.toNat, UInt8.ofNat (x.toNat / 256), UInt8.ofNat (x.toNat / 65536), UInt8.ofNat (x.toNat / 16777216)]
def seal_ (l : Bs) : Bs := l ++ le4 (sum32 l)
def open_ (s : Bs) : Option Bs := if 4 ≤ s.length ∧ seal_ (s.take (s.length - 4)) = s then some (s.take (s.length - 4)) else none
theorem le4_length (x : Reg) : (le4 x).length = 4 := rfl
theorem seal_length (l : Bs) : (seal_ l).length = l.length + 4 := by simp [seal_, le4_length]
theorem open_seal (l : Bs) : open_ (seal_ l) = some l := by
  have h : (seal_ l).take ((seal_ l).length - 4) = l := by rw [seal_length]; simp [seal_]
  unfold open_
  rw [h, if_pos ⟨by rw [seal_length]; omega, rfl⟩]
theorem open_some {s l : Bs} (h : open_ s = some l) : s = seal_ l := by
  unfold open_ at h
  split at h
  · rename_i h1
    cases h
    exact h1.2.symm
  · cases h

/-! ### by a table of bytes -/
theorem shl_stp (x : Reg) (h : x.getLsbD 31 = false) : stp (x <<< 1) = x := by
  unfold stp
  rw [if_neg (by simp)]
  apply BitVec.eq_of_getLsbD_eq
  intro i hi
  simp only [BitVec.getLsbD_ushiftRight, BitVec.getLsbD_shiftLeft]
  by_cases h31 : i = 31
  · subst h31; rw [h]; simp
  · have : 1 + i < 32 := by omega
    simp [this]
theorem shl_stps : ∀ (k : Nat) (x : Reg), k ≤ 32 → (∀ i, 32 - k ≤ i → x.getLsbD i = false) → stps k (x <<< k) = x
  | 0, x, _, _ => by simp [stps]
  | k + 1, x, hk, h => by
    have e : x <<< (k + 1) = (x <<< 1) <<< k := by rw [← BitVec.shiftLeft_add, Nat.add_comm]
    rw [e]
    simp only [stps]
    rw [shl_stps k (x <<< 1) (by omega) ?_]
    · exact shl_stp x (h 31 (by omega))
    · intro i hi
      by_cases h32 : i < 32
      · simp only [BitVec.getLsbD_shiftLeft]
        rw [h (i - 1) (by omega)]; simp
      · exact BitVec.getLsbD_of_ge _ _ (by omega)


theorem getD_ge (l : List Bool) (n : Nat) (h : l.length ≤ n) : l.getD n false = false := by simp [List.getD, List.getElem?_eq_none h]
theorem z_xor (x : Reg) : (0 : Reg) ^^^ x = x := BitVec.zero_xor
/-- at most thirty-two bits as a register, the first one lowest -/
def word : List Bool → Reg
  | [] => 0
  | b :: l => ofBit b ^^^ (word l <<< 1)
theorem ofBit_bit (b : Bool) (i : Nat) : (ofBit b).getLsbD i = (decide (i = 0) && b) := by
  cases b
  · simp [ofBit]
  · simp only [ofBit, if_true, Bool.and_true]
    rw [show (1 : Reg) = 1#32 from rfl, BitVec.getLsbD_one]
    simp
theorem word_bit : ∀ (l : List Bool) (i : Nat), i < 32 → (word l).getLsbD i = l.getD i false
  | [], i, _ => by simp [word]
  | b :: l, 0, _ => by simp only [word, BitVec.getLsbD_xor, ofBit_bit, BitVec.getLsbD_shiftLeft]; simp
  | b :: l, i + 1, h => by
    simp only [word, BitVec.getLsbD_xor, ofBit_bit, BitVec.getLsbD_shiftLeft]
    have := word_bit l i (by omega)
    simp [this, h]
theorem word_top (l : List Bool) (h : l.length ≤ 31) : (word l).getLsbD 31 = false := by
  rw [word_bit l 31 (by omega), getD_ge _ _ h]
theorem bitsIn_word : ∀ (l : List Bool) (r : Reg), l.length ≤ 32 → bitsIn r l = stps l.length (r ^^^ word l)
  | [], r, _ => by simp [bitsIn, stps, word]
  | b :: l, r, h => by
    have hl : l.length ≤ 31 := by simpa using h
    show bitsIn (bitIn r b) l = _
    rw [bitsIn_word l _ (by omega), bitIn, List.length_cons, word, ← BitVec.xor_assoc, stps_add l.length 1]
    simp only [stps]
    rw [stp_xor (r ^^^ ofBit b), shl_stp _ (word_top l hl)]
theorem bitsOf_length (c : UInt8) : (bitsOf c).length = 8 := by simp [bitsOf]
theorem bitsOf_get (c : UInt8) (i : Nat) : (bitsOf c).getD i false = c.toNat.testBit i := by
  by_cases h : i < 8
  · simp [bitsOf, List.getD, h]
  · rw [getD_ge _ _ (by rw [bitsOf_length]; omega)]
    rw [Nat.testBit_lt_two_pow]
    exact Nat.lt_of_lt_of_le c.toNat_lt (Nat.pow_le_pow_right (by omega) (by omega))
/-- what each byte makes of a register of noughts -/
def tab (c : UInt8) : Reg := byteIn 0 c
theorem byteIn_word (r : Reg) (c : UInt8) : byteIn r c = stps 8 (r ^^^ word (bitsOf c)) := by
  rw [byteIn, bitsIn_word _ _ (by rw [bitsOf_length]; omega), bitsOf_length]
theorem byteIn_tab (r : Reg) (c : UInt8) : byteIn r c = (r >>> 8) ^^^ tab (UInt8.ofNat r.toNat ^^^ c) := by
  rw [tab, byteIn_word, byteIn_word, z_xor]
  have hs := shl_stps 8 (r >>> 8) (by omega) (by
    intro i hi
    rw [BitVec.getLsbD_ushiftRight]
    exact BitVec.getLsbD_of_ge _ _ (by omega))
  have he : r ^^^ word (bitsOf c) = (r >>> 8) <<< 8 ^^^ word (bitsOf (UInt8.ofNat r.toNat ^^^ c)) := by
    apply BitVec.eq_of_getLsbD_eq
    intro i hi
    simp only [BitVec.getLsbD_xor, BitVec.getLsbD_shiftLeft, BitVec.getLsbD_ushiftRight, word_bit _ i hi, bitsOf_get, UInt8.toNat_xor, Nat.testBit_xor, ofNat_toNat_mod]
    by_cases h8 : i < 8
    · have : (r.toNat % 256).testBit i = r.toNat.testBit i := by
        rw [show (256 : Nat) = 2 ^ 8 from rfl, Nat.testBit_mod_two_pow]; simp [h8]
      rw [this]
      simp [h8, BitVec.getLsbD]
    · have e1 : (r.toNat % 256).testBit i = false := by
        rw [show (256 : Nat) = 2 ^ 8 from rfl, Nat.testBit_mod_two_pow]; simp [h8]
      have e2 : c.toNat.testBit i = false := Nat.testBit_lt_two_pow (Nat.lt_of_lt_of_le c.toNat_lt (Nat.pow_le_pow_right (by omega) (by omega)))
      rw [e1, e2]
      have e3 : 8 + (i - 8) = i := by omega
      simp [h8, e3, hi]
  rw [he, stps_xor, hs]

/-! ### turned bits -/
def bitsAll (l : Bs) : List Bool := l.flatMap bitsOf
theorem bytesIn_bits : ∀ (l : Bs) (r : Reg), bytesIn r l = bitsIn r (bitsAll l)
  | [], _ => rfl
  | c :: l, r => by
    show bytesIn (byteIn r c) l = _
    rw [bytesIn_bits l]
    simp only [bitsAll, List.flatMap_cons, bitsIn, List.foldl_append]
    rfl
theorem bytesIn_append (r : Reg) (a b : Bs) : bytesIn r (a ++ b) = bytesIn (bytesIn r a) b := List.foldl_append
theorem bitsIn_append (r : Reg) (a b : List Bool) : bitsIn r (a ++ b) = bitsIn (bitsIn r a) b := List.foldl_append
theorem bitsIn_false : ∀ (l : List Bool) (r : Reg), (∀ b ∈ l, b = false) → bitsIn r l = stps l.length r
  | [], _, _ => rfl
  | b :: l, r, h => by
    have hb : b = false := h b (by simp)
    subst hb
    show bitsIn (bitIn r false) l = _
    rw [bitsIn_false l _ (fun b hb => h b (by simp [hb])), bitIn, List.length_cons, stps_add l.length 1]
    have : r ^^^ ofBit false = r := by simp [ofBit]
    rw [this]; rfl
theorem bitsIn_xor : ∀ (a b : List Bool) (r q : Reg), a.length = b.length → bitsIn (r ^^^ q) (List.zipWith xor a b) = bitsIn r a ^^^ bitsIn q b
  | [], [], _, _, _ => rfl
  | x :: a, y :: b, r, q, h => by
    show bitsIn (bitIn (r ^^^ q) (x ^^ y)) _ = bitsIn (bitIn r x) a ^^^ bitsIn (bitIn q y) b
    rw [bitIn_xor, bitsIn_xor a b _ _ (by simpa using h)]
theorem word_ne {l : List Bool} (h : l.length ≤ 32) {i : Nat} (hi : l.getD i false = true) : word l ≠ 0 := by
  intro h0
  have hl : i < l.length := by
    rcases Nat.lt_or_ge i l.length with h1 | h1
    · exact h1
    · rw [getD_ge _ _ h1] at hi; cases hi
  have := word_bit l i (by omega)
  rw [h0, hi] at this
  simp at this
/-- turned bits that are all within thirty-two next to one another are seen -/
theorem burst {d : List Bool} {k : Nat} (hw : ∀ i, d.getD i false = true → k ≤ i ∧ i < k + 32) {i : Nat} (hi : d.getD i false = true) : bitsIn 0 d ≠ 0 := by
  have hd : d = d.take k ++ ((d.drop k).take 32 ++ (d.drop k).drop 32) := by rw [List.take_append_drop, List.take_append_drop]
  have hf : ∀ (l : List Bool), (∀ j, l.getD j false = false) → ∀ b ∈ l, b = false := by
    intro l hl b hb
    obtain ⟨j, hj, rfl⟩ := List.getElem_of_mem hb
    have := hl j
    simpa [List.getD, hj] using this
  have h1 : ∀ b ∈ d.take k, b = false := hf _ (by
    intro j
    cases hj : (d.take k).getD j false
    · rfl
    · exfalso
      have hjk : j < k := by
        rcases Nat.lt_or_ge j k with h | h
        · exact h
        · rw [getD_ge _ _ (by rw [List.length_take]; omega)] at hj; cases hj
      have : d.getD j false = true := by
        simp only [List.getD, List.getElem?_take, if_pos hjk] at hj ⊢; exact hj
      have := (hw j this).1
      omega)
  have h2 : ∀ b ∈ (d.drop k).drop 32, b = false := hf _ (by
    intro j
    cases hj : ((d.drop k).drop 32).getD j false
    · rfl
    · exfalso
      have : d.getD (k + 32 + j) false = true := by
        simp only [List.getD, List.getElem?_drop] at hj ⊢; rw [Nat.add_assoc]; exact hj
      have := (hw _ this).2
      omega)
  have h3 : word ((d.drop k).take 32) ≠ 0 := by
    refine word_ne (i := i - k) (by rw [List.length_take]; omega) ?_
    have := hw i hi
    simp only [List.getD, List.getElem?_take, List.getElem?_drop, if_pos (show i - k < 32 by omega), show k + (i - k) = i by omega] at hi ⊢
    exact hi
  rw [hd, bitsIn_append, bitsIn_append, bitsIn_false _ _ h1, stps_zero, bitsIn_false _ _ h2]
  intro h0
  have h4 := stps_inj h0
  rw [bitsIn_word _ _ (by rw [List.length_take]; omega), z_xor] at h4
  exact h3 (stps_inj h4)
theorem le4_bit (x : Reg) (i : Nat) (h : i < 32) : (bitsAll (le4 x)).getD i false = x.getLsbD i := by
  have hb : bitsAll (le4 x) = bitsOf (UInt8.ofNat x.toNat) ++ (bitsOf (UInt8.ofNat (x.toNat / 256)) ++ (bitsOf (UInt8.ofNat (x.toNat / 65536)) ++ (bitsOf (UInt8.ofNat (x.toNat / 16777216)) ++ []))) := rfl
  have ha : ∀ (c : UInt8) (l : List Bool) (j : Nat), (bitsOf c ++ l).getD j false = if j < 8 then c.toNat.testBit j else l.getD (j - 8) false := by
    intro c l j
    split
    · rename_i hj
      rw [← bitsOf_get]
      simp [List.getD, List.getElem?_append_left, bitsOf_length, hj]
    · rename_i hj
      simp only [List.getD]
      rw [List.getElem?_append_right (by rw [bitsOf_length]; omega), bitsOf_length]
  have hm : ∀ (n m j : Nat), j < 8 → (UInt8.ofNat (n / 2 ^ m)).toNat.testBit j = n.testBit (m + j) := by
    intro n m j hj
    rw [ofNat_toNat_mod, show (256 : Nat) = 2 ^ 8 from rfl, Nat.testBit_mod_two_pow, Nat.testBit_div_two_pow]
    simp [hj, Nat.add_comm]
  have e0 := hm x.toNat 0
  have e1 := hm x.toNat 8
  have e2 := hm x.toNat 16
  have e3 := hm x.toNat 24
  simp only [Nat.pow_zero, Nat.div_one, Nat.zero_add] at e0
  have p1 : (2 : Nat) ^ 8 = 256 := rfl
  have p2 : (2 : Nat) ^ 16 = 65536 := rfl
  have p3 : (2 : Nat) ^ 24 = 16777216 := rfl
  rw [p1] at e1
  rw [p2] at e2
  rw [p3] at e3
  rw [hb, ha, ha, ha, ha]
  by_cases h0 : i < 8
  · rw [if_pos h0, e0 _ h0]; rfl
  rw [if_neg h0]
  by_cases h1 : i - 8 < 8
  · rw [if_pos h1, e1 _ h1, show 8 + (i - 8) = i by omega]; rfl
  rw [if_neg h1]
  by_cases h2 : i - 8 - 8 < 8
  · rw [if_pos h2, e2 _ h2, show 16 + (i - 8 - 8) = i by omega]; rfl
  rw [if_neg h2, if_pos (by omega), e3 _ (by omega), show 24 + (i - 8 - 8 - 8) = i by omega]; rfl
theorem word_le4 (x : Reg) : word (bitsAll (le4 x)) = x := by
  apply BitVec.eq_of_getLsbD_eq
  intro i hi
  rw [word_bit _ i hi, le4_bit x i hi]
theorem bytesIn_seal (t : Bs) : bytesIn (~~~ 0) (seal_ t) = stps 32 (~~~ 0) := by
  rw [seal_, bytesIn_append, bytesIn_bits (le4 _)]
  have hl : (bitsAll (le4 (sum32 t))).length = 32 := rfl
  rw [bitsIn_word _ _ (by omega), hl, word_le4, sum32]
  congr 1
  apply BitVec.eq_of_getLsbD_eq
  intro i hi
  rw [BitVec.getLsbD_xor, BitVec.getLsbD_not, BitVec.getLsbD_not]
  have : (0 : Reg).getLsbD i = false := by rw [show (0 : Reg) = 0#32 from rfl, BitVec.getLsbD_zero]
  rw [this]
  simp [hi]

/-! ### bits of bytes are turned -/
theorem bitsAll_length : ∀ l : Bs, (bitsAll l).length = 8 * l.length
  | [] => rfl
  | c :: l => by
    show (bitsOf c ++ bitsAll l).length = _
    rw [List.length_append, bitsOf_length, bitsAll_length l, List.length_cons]; omega
/-- two strings of bytes of one length, of which the bits differ just where D tells, all within thirty-two, and at one place at least: not both were sealed -/
theorem not_both {s s' t t' : Bs} (h1 : open_ s = some t) (h2 : open_ s' = some t') {D : List Bool} (hD : bitsAll s' = List.zipWith xor (bitsAll s) D) (hl : D.length = 8 * s.length)
    {k : Nat} (hw : ∀ i, D.getD i false = true → k ≤ i ∧ i < k + 32) {i : Nat} (hi : D.getD i false = true) : False := by
  have e1 : bitsIn (~~~ 0) (bitsAll s) = stps 32 (~~~ 0) := by rw [← bytesIn_bits, open_some h1, bytesIn_seal]
  have e2 : bitsIn (~~~ 0) (bitsAll s') = stps 32 (~~~ 0) := by rw [← bytesIn_bits, open_some h2, bytesIn_seal]
  have e3 := bitsIn_xor (bitsAll s) D (~~~ 0) 0 (by rw [bitsAll_length, hl])
  have e4 : (~~~ (0 : Reg)) ^^^ 0 = ~~~ 0 := BitVec.xor_zero
  rw [e4, ← hD, e2, e1] at e3
  refine burst hw hi ?_
  have e5 := congrArg (fun x : Reg => stps 32 (~~~ 0) ^^^ x) e3
  simp only [BitVec.xor_self] at e5
  rw [← BitVec.xor_assoc, BitVec.xor_self] at e5
  exact (e5.trans (z_xor _)).symm

end Go.Proofs.Ytdemkcnhcgiheaa
