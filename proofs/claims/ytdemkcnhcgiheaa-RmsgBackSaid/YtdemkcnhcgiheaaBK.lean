/- Bits of bytes that are turned, in plain Lean: of sealed bytes of which some are turned, all within thirty-two, no seal is right. No condition; no program in sight. -/
import Derived.Test.YtdemkcnhcgiheaaK
namespace Go.Proofs.Ytdemkcnhcgiheaa
/-- bit number j of bytes -/
def bitAt (l : Bs) (j : Nat) : Bool := (l.getD (j / 8) 0).toNat.testBit (j % 8)
theorem bitsAll_get : ∀ (l : Bs) (j : Nat), (bitsAll l).getD j false = bitAt l j
  | [], j => by simp [bitsAll, bitAt]
  | c :: l, j => by
    show (bitsOf c ++ bitsAll l).getD j false = _
    by_cases h : j < 8
    · have e : (bitsOf c ++ bitsAll l).getD j false = (bitsOf c).getD j false := by
        simp [List.getD, List.getElem?_append_left (show j < (bitsOf c).length by rw [bitsOf_length]; exact h)]
      rw [e, bitsOf_get, bitAt, Nat.div_eq_of_lt h, Nat.mod_eq_of_lt h]
      rfl
    · have e : (bitsOf c ++ bitsAll l).getD j false = (bitsAll l).getD (j - 8) false := by
        simp [List.getD, List.getElem?_append_right (show (bitsOf c).length ≤ j by rw [bitsOf_length]; omega), bitsOf_length]
      rw [e, bitsAll_get l (j - 8), bitAt, bitAt]
      have e1 : j / 8 = (j - 8) / 8 + 1 := by omega
      have e2 : j % 8 = (j - 8) % 8 := by omega
      rw [e1, e2]
      rfl
/-- a byte of which one bit is turned -/
def turn (c : UInt8) (r : Nat) : UInt8 := UInt8.ofNat (c.toNat ^^^ 2 ^ r)
theorem turn_toNat (c : UInt8) (r : Nat) (h : r < 8) : (turn c r).toNat = c.toNat ^^^ 2 ^ r := by
  have h1 : 2 ^ r < 2 ^ 8 := Nat.pow_lt_pow_right (by decide) h
  have h2 : c.toNat ^^^ 2 ^ r < 2 ^ 8 := Nat.xor_lt_two_pow (by have := c.toNat_lt; omega) h1
  rw [turn, ofNat_toNat_of_lt (by simpa using h2)]
theorem turn_bit (c : UInt8) (r i : Nat) (h : r < 8) : (turn c r).toNat.testBit i = (c.toNat.testBit i ^^ decide (r = i)) := by
  rw [turn_toNat c r h, Nat.testBit_xor, Nat.testBit_two_pow]
/-- which bits differ behind i rounds -/
def dif (k b i j : Nat) : Bool := decide (k ≤ j ∧ j < k + i) && b.testBit (j - k)
structure Turned (S : Bs) (k b i : Nat) (B : Bs) (sm : Bool) : Prop where
  len : B.length = S.length
  bit : ∀ j, j < 8 * S.length → bitAt B j = (bitAt S j ^^ dif k b i j)
  no : sm = false → B = S
  yes : sm = true → ∃ j, j < 8 * S.length ∧ dif k b i j = true
theorem Turned.zero (S : Bs) (k b : Nat) : Turned S k b 0 S false :=
  ⟨rfl, fun j _ => by rw [dif, show decide (k ≤ j ∧ j < k + 0) = false from decide_eq_false (by omega), Bool.false_and, Bool.xor_false], fun _ => rfl, fun h => absurd h (by decide)⟩
theorem dif_succ {k b i j : Nat} : dif k b (i + 1) j = (dif k b i j || (decide (j = k + i) && b.testBit i)) := by
  by_cases h1 : k ≤ j
  · by_cases h2 : j < k + i
    · rw [dif, dif, decide_eq_true (show k ≤ j ∧ j < k + (i + 1) by omega), decide_eq_true (show k ≤ j ∧ j < k + i by omega), decide_eq_false (show ¬ j = k + i by omega)]
      simp
    · by_cases h3 : j = k + i
      · rw [dif, dif, decide_eq_true (show k ≤ j ∧ j < k + (i + 1) by omega), decide_eq_false (show ¬ (k ≤ j ∧ j < k + i) by omega), decide_eq_true h3, show j - k = i by omega]
        simp
      · rw [dif, dif, decide_eq_false (show ¬ (k ≤ j ∧ j < k + (i + 1)) by omega), decide_eq_false (show ¬ (k ≤ j ∧ j < k + i) by omega), decide_eq_false h3]
        simp
  · rw [dif, dif, decide_eq_false (show ¬ (k ≤ j ∧ j < k + (i + 1)) by omega), decide_eq_false (show ¬ (k ≤ j ∧ j < k + i) by omega), decide_eq_false (show ¬ j = k + i by omega)]
    simp
/-- a round in which nothing is turned -/
theorem Turned.skip {S : Bs} {k b i : Nat} {B : Bs} {sm : Bool} (h : Turned S k b i B sm) (hn : b.testBit i = false ∨ 8 * S.length ≤ k + i) : Turned S k b (i + 1) B sm := by
  refine ⟨h.len, fun j hj => ?_, h.no, fun hs => ?_⟩
  · rw [h.bit j hj, dif_succ]
    have e : (decide (j = k + i) && b.testBit i) = false := by
      rcases hn with hn | hn
      · rw [hn, Bool.and_false]
      · rw [decide_eq_false (by omega), Bool.false_and]
    rw [e, Bool.or_false]
  · obtain ⟨j, h1, h2⟩ := h.yes hs
    exact ⟨j, h1, by rw [dif_succ, h2, Bool.true_or]⟩
theorem getD_set (l : Bs) (q p : Nat) (c : UInt8) (hq : q < l.length) : (l.set q c).getD p 0 = if q = p then c else l.getD p 0 := by
  by_cases h : q = p
  · subst h
    simp [List.getD, hq]
  · rw [if_neg h]
    simp [List.getD, List.getElem?_set_ne h]
/-- a round in which a bit is turned -/
theorem Turned.turn {S : Bs} {k b i : Nat} {B : Bs} {sm : Bool} (h : Turned S k b i B sm) (hb : b.testBit i = true) (hk : k + i < 8 * S.length) :
    Turned S k b (i + 1) (B.set ((k + i) / 8) (Go.Proofs.Ytdemkcnhcgiheaa.turn (B.getD ((k + i) / 8) 0) ((k + i) % 8))) true := by
  have hq : (k + i) / 8 < B.length := by rw [h.len]; omega
  refine ⟨by rw [List.length_set]; exact h.len, fun j hj => ?_, fun hs => absurd hs (by decide), fun _ => ⟨k + i, hk, by rw [dif_succ, decide_eq_true rfl, hb]; simp⟩⟩
  rw [dif_succ, hb, Bool.and_true]
  have h0 : dif k b i (k + i) = false := by rw [dif, decide_eq_false (by omega), Bool.false_and]
  rw [bitAt, getD_set _ _ _ _ hq]
  by_cases h1 : (k + i) / 8 = j / 8
  · rw [if_pos h1, turn_bit _ _ _ (by omega), h1]
    have hB : (B.getD (j / 8) 0).toNat.testBit (j % 8) = bitAt B j := rfl
    rw [hB, h.bit j hj]
    by_cases h2 : j = k + i
    · subst h2
      rw [h0]
      simp
    · rw [decide_eq_false h2, decide_eq_false (show ¬ (k + i) % 8 = j % 8 by omega)]
      simp
  · rw [if_neg h1]
    have hB : (B.getD (j / 8) 0).toNat.testBit (j % 8) = bitAt B j := rfl
    rw [hB, h.bit j hj, decide_eq_false (show ¬ j = k + i by intro e; apply h1; rw [e]), Bool.or_false]
/-- the bits, behind all rounds -/
theorem Turned.all {S : Bs} {k b : Nat} {B : Bs} {sm : Bool} (h : Turned S k b 32 B sm) : bitsAll B = List.zipWith xor (bitsAll S) ((List.range (8 * S.length)).map (dif k b 32)) := by
  apply List.ext_getElem
  · rw [bitsAll_length, List.length_zipWith, bitsAll_length, List.length_map, List.length_range, h.len, Nat.min_self]
  · intro j h1 h2
    rw [bitsAll_length, h.len] at h1
    have e1 := bitsAll_get B j
    have e2 := bitsAll_get S j
    rw [List.getD, List.getElem?_eq_getElem (by rw [bitsAll_length, h.len]; exact h1), Option.getD_some] at e1
    rw [List.getD, List.getElem?_eq_getElem (by rw [bitsAll_length]; exact h1), Option.getD_some] at e2
    rw [e1, List.getElem_zipWith, e2, List.getElem_map, List.getElem_range, h.bit j h1]
/-- bytes that are sealed, of which bits are turned: the seal is wrong just if a bit is -/
theorem Turned.seal_ {S : Bs} {k b : Nat} {B : Bs} {t : Bs} (h : Turned S k b 32 B true) (hS : open_ S = some t) : open_ B = none := by
  cases hB : open_ B with
  | none => rfl
  | some t' =>
    obtain ⟨j, hj, hd⟩ := h.yes rfl
    refine (not_both hS hB h.all (by simp) (k := k) (fun i hi => ?_) (i := j) ?_).elim
    · by_cases hl : i < 8 * S.length
      · have : dif k b 32 i = true := by simpa [List.getD, hl] using hi
        simp only [dif, Bool.and_eq_true, decide_eq_true_eq] at this
        exact this.1
      · simp [List.getD, hl] at hi
    · simp [List.getD, hj, hd]
end Go.Proofs.Ytdemkcnhcgiheaa
