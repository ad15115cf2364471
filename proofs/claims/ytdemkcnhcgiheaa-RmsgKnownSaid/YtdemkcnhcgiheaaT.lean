/- What Decode answers, in plain Lean; a message comes back from its bytes. No condition but that numbers are of 64 bits. -/
import Derived.Test.YtdemkcnhcgiheaaX
namespace Go.Proofs.Ytdemkcnhcgiheaa
/-- the reader behind k numbers -/
def after : Nat → Rd → Rd
  | 0, r => r
  | k + 1, r => (rnum (after k r)).2
/-- the number that is read behind k others -/
def nth (k : Nat) (r : Rd) : Nat := (rnum (after k r)).1
/-- entries, as many as there are up to n: the reader gives up where one is wrong -/
def rents : Nat → Rd → List Ent × Rd
  | 0, r => ([], r)
  | _ + 1, none => ([], none)
  | k + 1, some l => ((rent (some l)).1 :: (rents k (rent (some l)).2).1, (rents k (rent (some l)).2).2)
theorem rents_none (n : Nat) : rents n none = ([], none) := by cases n <;> rfl
theorem after_none (k : Nat) : after k none = none := by
  induction k with
  | zero => rfl
  | succ k ih => rw [after, ih]; rfl
theorem rtext_none : rtext none = ([], none) := rfl
theorem after_length (k : Nat) (r : Rd) : ((after k r).getD []).length ≤ (r.getD []).length := by
  induction k with
  | zero => exact Nat.le_refl _
  | succ k ih => exact Nat.le_trans (rnum_length _) ih
theorem rnum_64 (r : Rd) : (rnum r).1 < 18446744073709551616 := by
  cases hr : rnum r with
  | mk n o =>
    cases o with
    | none => rw [rnum_none hr]; show (0 : Nat) < _; omega
    | some l => exact rnum_lt hr
theorem nth_64 (k : Nat) (r : Rd) : nth k r < 18446744073709551616 := rnum_64 _
theorem rtext_short (r : Rd) : (rtext r).1.length ≤ (r.getD []).length := by
  unfold rtext
  have := rnum_length r
  split
  · rename_i n l h
    rw [h] at this
    simp at this
    split <;> simp
    omega
  · simp
theorem rent_ok (r : Rd) (n : Nat) (h : (r.getD []).length ≤ n) : (rent r).1.ok n :=
  ⟨rnum_64 _, rnum_64 _, Nat.le_trans (rtext_short _) (Nat.le_trans (rnum_length _) (Nat.le_trans (rnum_length _) h))⟩
theorem rents_ok (k : Nat) : ∀ (r : Rd) (n : Nat), (r.getD []).length ≤ n → (∀ e ∈ (rents k r).1, e.ok n) ∧ ((rents k r).2.getD []).length ≤ n := by
  induction k with
  | zero => intro r n h; exact ⟨fun e he => absurd he (by simp [rents]), h⟩
  | succ k ih =>
    intro r n h
    cases r with
    | none => exact ⟨fun e he => absurd he (by simp [rents]), by simp [rents]⟩
    | some l =>
      have h2 := ih (rent (some l)).2 n (Nat.le_trans (rent_length _) h)
      refine ⟨fun e he => ?_, h2.2⟩
      simp only [rents, List.mem_cons] at he
      rcases he with rfl | he
      · exact rent_ok _ n h
      · exact h2.1 e he
theorem rents_le (k : Nat) : ∀ r : Rd, (rents k r).1.length ≤ k := by
  induction k with
  | zero => intro r; simp [rents]
  | succ k ih =>
    intro r
    cases r with
    | none => simp [rents]
    | some l => simp only [rents, List.length_cons]; have := ih (rent (some l)).2; omega
theorem rents_all (k : Nat) : ∀ (r : Rd) (l : Bs), (rents k r).2 = some l → (rents k r).1.length = k := by
  induction k with
  | zero => intro r l _; rfl
  | succ k ih =>
    intro r l h
    cases r with
    | none => simp [rents] at h
    | some s => simp only [rents, List.length_cons] at h ⊢; rw [ih _ l h]
/-- what is read of bytes; what is left -/
def tail5 (r : Rd) : Bs × Rd := rtext (after 5 r)
def parse (t : Bs) : Mg :=
  ⟨((min (nth 0 (some t)) 99 : Nat) : Int), ((min (nth 1 (some t)) 99 : Nat) : Int), ((min (nth 2 (some t)) 99 : Nat) : Int), nth 3 (some t), nth 4 (some t), nth 5 (some t), nth 6 (some t),
   (rents (min (nth 7 (some t)) 99) (after 8 (some t))).1, nth 0 (rents (min (nth 7 (some t)) 99) (after 8 (some t))).2 == 1,
   nth 1 (rents (min (nth 7 (some t)) 99) (after 8 (some t))).2, nth 2 (rents (min (nth 7 (some t)) 99) (after 8 (some t))).2, nth 3 (rents (min (nth 7 (some t)) 99) (after 8 (some t))).2, nth 4 (rents (min (nth 7 (some t)) 99) (after 8 (some t))).2,
   (tail5 (rents (min (nth 7 (some t)) 99) (after 8 (some t))).2).1⟩
def left (t : Bs) : Rd := (tail5 (rents (min (nth 7 (some t)) 99) (after 8 (some t))).2).2
def zeroM : Mg := ⟨0, 0, 0, 0, 0, 0, 0, [], false, 0, 0, 0, 0, []⟩
def good (t : Bs) : Bool := rend (left t) && checkB (parse t) && (layB (parse t) == t)
/-- what Decode answers -/
def decB (s : Bs) : Mg × Int :=
  match open_ s with
  | none => (zeroM, 8)
  | some t => if good t then (parse t, 0) else (zeroM, 4)
theorem parse_fit (t : Bs) (ht : t.length ≤ 1000000) : (parse t).fit := by
  have ha := after_length 8 (some t)
  have h := rents_ok (min (nth 7 (some t)) 99) (after 8 (some t)) 1000000 (by simp at ha ⊢; omega)
  refine ⟨nth_64 _ _, nth_64 _ _, nth_64 _ _, nth_64 _ _, nth_64 _ _, nth_64 _ _, nth_64 _ _, nth_64 _ _, h.1, ?_, ?_⟩
  · have := rents_le (min (nth 7 (some t)) 99) (after 8 (some t))
    show (rents _ _).1.length ≤ _
    omega
  · exact Nat.le_trans (rtext_short _) (Nat.le_trans (after_length 5 _) h.2)
theorem parse_small (t : Bs) (ht : t.length ≤ 3000) : (parse t).small := by
  have ha := after_length 8 (some t)
  have h := rents_ok (min (nth 7 (some t)) 99) (after 8 (some t)) 3000 (by simp at ha ⊢; omega)
  exact ⟨fun e he => (h.1 e he).d, Nat.le_trans (rtext_short _) (Nat.le_trans (after_length 5 _) h.2)⟩
theorem parse_len (t : Bs) : (parse t).es.length ≤ 99 := by
  have := rents_le (min (nth 7 (some t)) 99) (after 8 (some t))
  show (rents _ _).1.length ≤ _
  omega
/-! ### there and back -/
theorem numsB_drop (l : List Nat) (k : Nat) (h : k < l.length) (rest : Bs) : numsB (l.drop k) ++ rest = num l[k] ++ (numsB (l.drop (k + 1)) ++ rest) := by
  rw [List.drop_eq_getElem_cons h, numsB, List.flatMap_cons, List.append_assoc]; rfl
theorem after_nums (l : List Nat) (rest : Bs) (hl : ∀ n ∈ l, n < 18446744073709551616) (k : Nat) (hk : k ≤ l.length) : after k (some (numsB l ++ rest)) = some (numsB (l.drop k) ++ rest) := by
  induction k with
  | zero => rfl
  | succ k ih =>
    rw [after, ih (by omega), numsB_drop l k (by omega), rnum_num _ (hl _ (List.getElem_mem _))]
theorem nth_nums (l : List Nat) (rest : Bs) (hl : ∀ n ∈ l, n < 18446744073709551616) (k : Nat) (hk : k < l.length) : nth k (some (numsB l ++ rest)) = l[k] := by
  rw [nth, after_nums l rest hl k (by omega), numsB_drop l k hk, rnum_num _ (hl _ (List.getElem_mem _))]
theorem after_all (l : List Nat) (rest : Bs) (hl : ∀ n ∈ l, n < 18446744073709551616) (k : Nat) (hk : k = l.length) : after k (some (numsB l ++ rest)) = some rest := by
  rw [after_nums l rest hl k (by omega), hk, List.drop_length]; rfl
theorem rent_ent (e : Ent) (n : Nat) (hn : n ≤ 1000000) (he : e.ok n) (rest : Bs) : rent (some (entB e ++ rest)) = (e, some rest) := by
  obtain ⟨a, b, d⟩ := e
  have h1 := he.t
  have h2 := he.i
  have h3 := he.d
  dsimp only at h1 h2 h3
  simp only [rent, entB, List.append_assoc, rnum_num a h1, rnum_num b h2, rtext_text d (by omega)]
theorem rents_ents (es : List Ent) (n : Nat) (hn : n ≤ 1000000) (rest : Bs) : (∀ e ∈ es, e.ok n) → rents es.length (some (entsB es ++ rest)) = (es, some rest) := by
  induction es with
  | nil => intro _; rfl
  | cons e es ih =>
    intro h
    have e1 : entsB (e :: es) ++ rest = entB e ++ (entsB es ++ rest) := by rw [entsB, List.flatMap_cons, List.append_assoc]; rfl
    rw [e1, List.length_cons, rents, rent_ent e n hn (h e (by simp)), ih fun x hx => h x (by simp [hx])]
theorem parse_lay (m : Mg) (hm : m.fit) (hk : 0 ≤ m.k ∧ m.k ≤ 7) (hf : 0 ≤ m.f ∧ m.f ≤ 6) (ht : 0 ≤ m.t ∧ m.t ≤ 6) (hl : m.es.length ≤ 70) : parse (layB m) = m ∧ left (layB m) = some [] := by
  have h8 : ∀ n ∈ [m.k.toNat, m.f.toNat, m.t.toNat, m.term, m.ix, m.lt, m.cm, m.es.length], n < 18446744073709551616 := by
    have := hm.term; have := hm.ix; have := hm.lt; have := hm.cm
    intro n hn
    simp at hn
    omega
  have h5 : ∀ n ∈ [m.rj.toNat, m.hi, m.cx, m.si, m.st], n < 18446744073709551616 := by
    have := hm.hi; have := hm.cx; have := hm.si; have := hm.st
    have : m.rj.toNat ≤ 1 := by cases m.rj <;> decide
    intro n hn
    simp at hn
    omega
  have N8 := nth_nums _ (entsB m.es ++ (numsB [m.rj.toNat, m.hi, m.cx, m.si, m.st] ++ text m.sd)) h8
  have A8 := after_all _ (entsB m.es ++ (numsB [m.rj.toNat, m.hi, m.cx, m.si, m.st] ++ text m.sd)) h8 8 rfl
  have N5 := nth_nums _ (text m.sd) h5
  have A5 := after_all _ (text m.sd) h5 5 rfl
  have e7 : nth 7 (some (layB m)) = m.es.length := N8 7 (by simp)
  have eR : rents (min (nth 7 (some (layB m))) 99) (after 8 (some (layB m))) = (m.es, some (numsB [m.rj.toNat, m.hi, m.cx, m.si, m.st] ++ text m.sd)) := by
    rw [e7, Nat.min_eq_left (by omega)]
    rw [show after 8 (some (layB m)) = _ from A8]
    exact rents_ents m.es 1000000 (by omega) _ hm.es
  have eT : tail5 (some (numsB [m.rj.toNat, m.hi, m.cx, m.si, m.st] ++ text m.sd)) = (m.sd, some []) := by
    rw [tail5, A5]
    have := rtext_text m.sd (by have := hm.sd; omega) []
    rwa [List.append_nil] at this
  have eB : (nth 0 (some (numsB [m.rj.toNat, m.hi, m.cx, m.si, m.st] ++ text m.sd)) == 1) = m.rj := by
    rw [N5 0 (by simp)]
    show (m.rj.toNat == 1) = m.rj
    cases m.rj <;> rfl
  have e0 : nth 0 (some (layB m)) = m.k.toNat := N8 0 (by simp)
  have e1 : nth 1 (some (layB m)) = m.f.toNat := N8 1 (by simp)
  have e2 : nth 2 (some (layB m)) = m.t.toNat := N8 2 (by simp)
  have e3 : nth 3 (some (layB m)) = m.term := N8 3 (by simp)
  have e4 : nth 4 (some (layB m)) = m.ix := N8 4 (by simp)
  have e5 : nth 5 (some (layB m)) = m.lt := N8 5 (by simp)
  have e6 : nth 6 (some (layB m)) = m.cm := N8 6 (by simp)
  constructor
  · unfold parse
    rw [eR]
    dsimp only
    rw [eT, eB, e0, e1, e2, e3, e4, e5, e6, N5 1 (by simp), N5 2 (by simp), N5 3 (by simp), N5 4 (by simp), Nat.min_eq_left (by omega), Nat.min_eq_left (by omega), Nat.min_eq_left (by omega), Int.toNat_of_nonneg hk.1, Int.toNat_of_nonneg hf.1, Int.toNat_of_nonneg ht.1]
    rfl
  · unfold left
    rw [eR]
    dsimp only
    rw [eT]
theorem good_lay {m : Mg} (hm : m.fit) (h : checkB m = true) : good (layB m) = true := by
  obtain ⟨hk, hf, ht, hl⟩ := checkB_facts h
  obtain ⟨e1, e2⟩ := parse_lay m hm hk hf ht hl
  simp [good, e1, e2, h, rend]
/-- a message comes back from its bytes -/
theorem dec_enc {m : Mg} (hm : m.fit) (h : checkB m = true) : decB (encB m) = (m, 0) := by
  obtain ⟨hk, hf, ht, hl⟩ := checkB_facts h
  obtain ⟨e1, e2⟩ := parse_lay m hm hk hf ht hl
  rw [encB, if_pos h]
  unfold decB
  rw [open_seal]
  dsimp only
  rw [if_pos (good_lay hm h), e1]
/-- bytes that are taken are those of the message -/
theorem dec_some {s : Bs} {m : Mg} (h : decB s = (m, 0)) : checkB m = true ∧ encB m = s := by
  unfold decB at h
  split at h
  · simp at h
  · rename_i t ho
    split at h
    · rename_i hg
      simp only [Prod.mk.injEq, and_true] at h
      subst h
      simp only [good, Bool.and_eq_true, beq_iff_eq] at hg
      refine ⟨hg.1.2, ?_⟩
      rw [encB, if_pos hg.1.2, hg.2, open_some ho]
    · simp at h
end Go.Proofs.Ytdemkcnhcgiheaa
