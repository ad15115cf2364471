/- Numbers and texts as bytes, in plain Lean: how they are laid, how they are read; what is read is what was laid. No condition; no program in sight. -/
namespace Go.Proofs.Ytdemkcnhcgiheaa
abbrev Bs := List UInt8

/-! ### laying -/
/-- the last k bytes of a number, the highest first -/
def lows : Nat → Nat → Bs
  | 0, _ => []
  | k + 1, n => UInt8.ofNat (n / 256 ^ k) :: lows k n
theorem lows_length : ∀ k n, (lows k n).length = k
  | 0, _ => rfl
  | k + 1, n => by simp [lows, lows_length k n]

/-- how many bytes a number has -/
def nlen (n : Nat) : Nat := if n = 0 then 0 else nlen (n / 256) + 1
termination_by n
decreasing_by omega
theorem nlen_zero : nlen 0 = 0 := by unfold nlen; rfl
theorem nlen_pos {n : Nat} (h : n ≠ 0) : nlen n = nlen (n / 256) + 1 := by rw [nlen, if_neg h]
/-- a number is below 256 to the k just if it has at most k bytes -/
theorem nlen_le : ∀ k n, nlen n ≤ k ↔ n < 256 ^ k
  | 0, n => by
    by_cases h : n = 0
    · subst h; simp [nlen_zero]
    · rw [nlen_pos h]; simp; omega
  | k + 1, n => by
    by_cases h : n = 0
    · subst h; simp [nlen_zero, Nat.pow_pos]
    · rw [nlen_pos h, Nat.add_le_add_iff_right, nlen_le k, Nat.div_lt_iff_lt_mul (by omega), Nat.pow_succ]
theorem nlen_lt_iff (k n : Nat) : k < nlen n ↔ 256 ^ k ≤ n := by
  have := nlen_le k n
  omega
/-- the loop that lays a number goes on just as long -/
theorem nlen_more (k n : Nat) : k < nlen n ↔ 0 < n / 256 ^ k := by
  rw [nlen_lt_iff, Nat.div_pos_iff]
  have := Nat.pow_pos (a := 256) (n := k) (by omega)
  omega

def num (n : Nat) : Bs := if n < 248 then [UInt8.ofNat n] else UInt8.ofNat (247 + nlen n) :: lows (nlen n) n
def text (t : Bs) : Bs := num t.length ++ t

theorem nlen_64 {n : Nat} (h : n < 18446744073709551616) : nlen n ≤ 8 := (nlen_le 8 n).2 (by simpa using h)
theorem num_length_le {n : Nat} (h : n < 18446744073709551616) : (num n).length ≤ 9 := by
  unfold num
  split
  · simp
  · simp [lows_length]; exact nlen_64 h
theorem text_length_le {t : Bs} (h : t.length < 18446744073709551616) : (text t).length ≤ 9 + t.length := by
  have := num_length_le h
  simp [text]; omega

/-! ### reading -/
def val (l : Bs) : Nat := l.foldl (fun n b => n * 256 + b.toNat) 0
theorem val_nil : val [] = 0 := rfl
theorem val_snoc (l : Bs) (b : UInt8) : val (l ++ [b]) = val l * 256 + b.toNat := by simp [val, List.foldl_append]
theorem foldl_val : ∀ (l : Bs) (a : Nat), l.foldl (fun n b => n * 256 + b.toNat) a = a * 256 ^ l.length + val l
  | [], a => by simp [val]
  | b :: l, a => by
    unfold val
    simp only [List.foldl_cons, List.length_cons, Nat.pow_succ]
    rw [foldl_val l, foldl_val l (0 * 256 + b.toNat)]
    simp only [Nat.zero_mul, Nat.zero_add, Nat.add_mul]
    have e : a * 256 * 256 ^ l.length = a * (256 ^ l.length * 256) := by rw [Nat.mul_assoc, Nat.mul_comm 256]
    omega
theorem val_cons (b : UInt8) (l : Bs) : val (b :: l) = b.toNat * 256 ^ l.length + val l := by
  show (b :: l).foldl _ 0 = _
  rw [List.foldl_cons, foldl_val]; simp
theorem val_lt : ∀ l : Bs, val l < 256 ^ l.length
  | [] => by simp [val]
  | b :: l => by
    have ih := val_lt l
    have hb := b.toNat_lt
    rw [val_cons, List.length_cons, Nat.pow_succ]
    have h : b.toNat * 256 ^ l.length ≤ 255 * 256 ^ l.length := Nat.mul_le_mul_right _ (by omega)
    omega

/-- a reader: what is left; none: it is not well -/
abbrev Rd := Option Bs

/-- the number that stands at the front, and what is left -/
def rnum : Rd → Nat × Rd
  | none => (0, none)
  | some [] => (0, none)
  | some (f :: rest) =>
    if f.toNat < 248 then (f.toNat, some rest)
    else if rest.length < f.toNat - 247 then (0, none)
    else if rest.head? = some 0 then (0, none)
    else if val (rest.take (f.toNat - 247)) < 248 then (0, none)
    else (val (rest.take (f.toNat - 247)), some (rest.drop (f.toNat - 247)))
/-- the text that stands at the front, and what is left -/
def rtext (r : Rd) : Bs × Rd :=
  match rnum r with
  | (n, some l) => if l.length < n then ([], none) else (l.take n, some (l.drop n))
  | (_, none) => ([], none)


/-! ### what is read is what was laid -/
theorem ofNat_toNat_mod (n : Nat) : (UInt8.ofNat n).toNat = n % 256 := by rw [UInt8.toNat_ofNat']
theorem ofNat_toNat_of_lt {n : Nat} (h : n < 256) : (UInt8.ofNat n).toNat = n := by
  rw [UInt8.toNat_ofNat']; omega
theorem lows_mod : ∀ (k n m : Nat), k ≤ m → lows k (n % 256 ^ m) = lows k n
  | 0, _, _, _ => rfl
  | k + 1, n, m, h => by
    simp only [lows]
    rw [lows_mod k n m (by omega)]
    congr 1
    apply UInt8.toNat_inj.1
    rw [UInt8.toNat_ofNat', UInt8.toNat_ofNat']
    obtain ⟨d, rfl⟩ : ∃ d, m = k + 1 + d := ⟨m - (k + 1), by omega⟩
    have e : 256 ^ (k + 1 + d) = 256 ^ k * (256 * 256 ^ d) := by rw [Nat.pow_add, Nat.pow_succ, Nat.mul_assoc]
    rw [e, Nat.mod_mul_right_div_self, Nat.mod_mul_right_mod]
theorem val_lows : ∀ k n, val (lows k n) = n % 256 ^ k
  | 0, n => by simp [lows, val, Nat.mod_one]
  | k + 1, n => by
    rw [lows, val_cons, lows_length, val_lows k n, ofNat_toNat_mod, Nat.pow_succ, Nat.mod_mul, Nat.mul_comm, Nat.add_comm]
theorem lows_val : ∀ l : Bs, lows l.length (val l) = l
  | [] => rfl
  | b :: l => by
    have hl := val_lt l
    have hb := b.toNat_lt
    rw [val_cons, List.length_cons, lows]
    have e1 : (b.toNat * 256 ^ l.length + val l) / 256 ^ l.length = b.toNat := by
      rw [Nat.mul_comm, Nat.mul_add_div (Nat.pow_pos (by omega)), Nat.div_eq_of_lt hl]; omega
    have e2 : lows l.length (b.toNat * 256 ^ l.length + val l) = l := by
      rw [← lows_mod _ _ l.length (Nat.le_refl _), Nat.mul_comm, Nat.mul_add_mod, Nat.mod_eq_of_lt hl, lows_val l]
    rw [e1, e2]
    congr 1
    exact UInt8.ofNat_toNat
theorem nlen_eq {k n : Nat} (h1 : 256 ^ k ≤ n) (h2 : n < 256 ^ (k + 1)) : nlen n = k + 1 := by
  have a := (nlen_lt_iff k n).2 h1
  have b := (nlen_le (k + 1) n).2 h2
  omega
theorem val_bounds (b : UInt8) (l : Bs) (h : b ≠ 0) : 256 ^ l.length ≤ val (b :: l) := by
  have h0 : 1 ≤ b.toNat := by
    rcases Nat.eq_zero_or_pos b.toNat with h1 | h1
    · exact absurd (UInt8.toNat_inj.1 (by simpa using h1)) h
    · exact h1
  rw [val_cons]
  have := Nat.mul_le_mul_right (256 ^ l.length) h0
  omega
theorem rnum_num (n : Nat) (h : n < 18446744073709551616) (rest : Bs) : rnum (some (num n ++ rest)) = (n, some rest) := by
  unfold num
  split
  · rename_i h1
    simp only [List.singleton_append, rnum]
    rw [ofNat_toNat_of_lt (by omega), if_pos h1]
  · rename_i h1
    have h8 := nlen_64 h
    obtain ⟨k, hk⟩ : ∃ k, nlen n = k + 1 := ⟨nlen n - 1, by have := nlen_pos (n := n) (by omega); omega⟩
    have hf : (UInt8.ofNat (247 + nlen n)).toNat = 247 + nlen n := ofNat_toNat_of_lt (by omega)
    simp only [List.cons_append, rnum]
    rw [hf, if_neg (by omega), if_neg (by simp [lows_length]), show 247 + nlen n - 247 = nlen n by omega]
    have ht : (lows (nlen n) n ++ rest).take (nlen n) = lows (nlen n) n := by
      rw [List.take_append_of_le_length (by rw [lows_length]; omega), List.take_of_length_le (by rw [lows_length]; omega)]
    have hd : (lows (nlen n) n ++ rest).drop (nlen n) = rest := by
      have := List.drop_left (l₁ := lows (nlen n) n) (l₂ := rest)
      rwa [lows_length] at this
    have hv : val (lows (nlen n) n) = n := by
      rw [val_lows]; exact Nat.mod_eq_of_lt ((nlen_le _ _).1 (Nat.le_refl _))
    rw [ht, hd, hv, if_neg, if_neg (by omega)]
    rw [hk, lows]
    simp only [List.cons_append, List.head?_cons, Option.some.injEq]
    intro h0
    have h1 := (nlen_lt_iff k n).1 (by omega)
    have h2 := (nlen_le (k + 1) n).1 (by omega)
    have h3 : n / 256 ^ k < 256 := by rw [Nat.div_lt_iff_lt_mul (Nat.pow_pos (by omega))]; rw [Nat.pow_succ, Nat.mul_comm] at h2; exact h2
    have h4 : 0 < n / 256 ^ k := Nat.div_pos h1 (Nat.pow_pos (by omega))
    have h5 := congrArg UInt8.toNat h0
    rw [ofNat_toNat_of_lt h3] at h5
    simp at h5
    omega
theorem pow_256_8 : (256 : Nat) ^ 8 = 18446744073709551616 := by rw [show (256 : Nat) = 2 ^ 8 by rfl, ← Nat.pow_mul]
theorem rnum_some {s rest : Bs} {n : Nat} (h : rnum (some s) = (n, some rest)) : s = num n ++ rest ∧ n < 18446744073709551616 := by
  match s, h with
  | [], h => simp [rnum] at h
  | f :: t, h =>
    simp only [rnum] at h
    have hf := f.toNat_lt
    by_cases h1 : f.toNat < 248
    · rw [if_pos h1] at h
      simp only [Prod.mk.injEq, Option.some.injEq] at h
      obtain ⟨rfl, rfl⟩ := h
      refine ⟨?_, by omega⟩
      simp only [num, if_pos h1, List.singleton_append, List.cons.injEq, and_true]
      exact UInt8.ofNat_toNat.symm
    · rw [if_neg h1] at h
      by_cases h2 : t.length < f.toNat - 247
      · rw [if_pos h2] at h; simp at h
      rw [if_neg h2] at h
      by_cases h3 : t.head? = some 0
      · rw [if_pos h3] at h; simp at h
      rw [if_neg h3] at h
      by_cases h4 : val (t.take (f.toNat - 247)) < 248
      · rw [if_pos h4] at h; simp at h
      rw [if_neg h4] at h
      simp only [Prod.mk.injEq, Option.some.injEq] at h
      obtain ⟨hn, hr⟩ := h
      have hlen : (t.take (f.toNat - 247)).length = f.toNat - 247 := by rw [List.length_take]; omega
      have hlt := val_lt (t.take (f.toNat - 247))
      rw [hlen] at hlt
      obtain ⟨k, hk⟩ : ∃ k, f.toNat - 247 = k + 1 := ⟨f.toNat - 248, by omega⟩
      have hnl : nlen n = f.toNat - 247 := by
        rw [hk]
        refine nlen_eq ?_ (by rw [← hn, ← hk]; exact hlt)
        match ht : t.take (f.toNat - 247), hlen with
        | [], hl => simp at hl; omega
        | b :: l, hl =>
          rw [ht] at hn
          have hb : b ≠ 0 := by
            intro h0
            have : t.head? = some b := by
              rw [hk] at ht
              clear h h2 h4 hn hlt hlen h3 hl hr
              cases t with
              | nil => simp at ht
              | cons c t' =>
                rw [List.take_succ_cons, List.cons.injEq] at ht
                rw [List.head?_cons, ht.1]
            exact h3 (by rw [this, h0])
          have := val_bounds b l hb
          rw [← hn]
          have hl' : l.length = k := by simp at hl; omega
          rw [← hl']; exact this
      have h256 : 256 ^ (f.toNat - 247) ≤ 256 ^ 8 := Nat.pow_le_pow_right (by omega) (by omega)
      have hn2 : n < 18446744073709551616 := by
        rw [← pow_256_8]
        exact Nat.lt_of_lt_of_le (hn ▸ hlt) h256
      refine ⟨?_, hn2⟩
      have hlv := lows_val (t.take (f.toNat - 247))
      rw [hlen, hn] at hlv
      unfold num
      rw [if_neg (by omega), hnl, hlv, ← hr, show 247 + (f.toNat - 247) = f.toNat by omega, UInt8.ofNat_toNat]
      simp
theorem rnum_none {r : Rd} {n : Nat} (h : rnum r = (n, none)) : n = 0 := by
  unfold rnum at h
  split at h
  · simpa using h.symm
  · simpa using h.symm
  · (repeat' split at h) <;> simp at h <;> exact h.symm
theorem rtext_text (t : Bs) (h : t.length < 18446744073709551616) (rest : Bs) : rtext (some (text t ++ rest)) = (t, some rest) := by
  unfold rtext text
  rw [List.append_assoc, rnum_num _ h]
  simp
theorem rtext_some {s rest t : Bs} (h : rtext (some s) = (t, some rest)) : s = text t ++ rest := by
  unfold rtext at h
  split at h
  · rename_i n l hn
    obtain ⟨rfl, _⟩ := rnum_some hn
    split at h
    · simp at h
    · simp only [Prod.mk.injEq, Option.some.injEq] at h
      obtain ⟨rfl, rfl⟩ := h
      rename_i hl
      unfold text
      rw [List.length_take, Nat.min_eq_left (by omega), List.append_assoc, List.take_append_drop]
  · simp at h

end Go.Proofs.Ytdemkcnhcgiheaa
