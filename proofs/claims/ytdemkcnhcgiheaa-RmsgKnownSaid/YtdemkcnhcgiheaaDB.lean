/- The walk of Decode: what stands in memory while it runs; its plain turns. No condition. -/
import Derived.Test.YtdemkcnhcgiheaaDA
import Derived.Deep.AppendLies
import Derived.Deep.RegionHeldLaw
namespace Go.Proofs.Ytdemkcnhcgiheaa
open Go.RowKit
/-! ### rows of a call's own -/
theorem own_but {w w' : World} {B b H : Nat} {e : TypeId} {sz n : Nat} {v : Value} {xs : List Value} (h : w.ownsRow B e sz v n xs) (hb : But H b w w') (hH : w.heap.size ≤ H) (hB : b < B) : w'.ownsRow B e sz v n xs := by
  obtain ⟨h1, h | ⟨g, cap, cur, hv, hg0, hg, r⟩⟩ := h
  · exact ⟨h1, .inl h⟩
  · exact ⟨h1, .inr ⟨g, cap, cur, hv, hg0, blk_but hb (Nat.lt_of_lt_of_le (blk_lt hg) hH) (by omega) hg, r⟩⟩
theorem own_set {w : World} {B : Nat} {e : TypeId} {sz n : Nat} {v : Value} {xs : List Value} (h : w.ownsRow B e sz v n xs) (p : Addr) (hp : p.block < B) (x : Value) : (w.setCell p x).ownsRow B e sz v n xs := by
  obtain ⟨h1, h | ⟨g, cap, cur, hv, hg0, hg, r⟩⟩ := h
  · exact ⟨h1, .inl h⟩
  · exact ⟨h1, .inr ⟨g, cap, cur, hv, hg0, blk_other hg (by omega) _, r⟩⟩
theorem own_alloc {w : World} {B : Nat} {e : TypeId} {sz n : Nat} {v : Value} {xs : List Value} (h : w.ownsRow B e sz v n xs) (o : Obj) : (w.alloc o).ownsRow B e sz v n xs := by
  obtain ⟨h1, h | ⟨g, cap, cur, hv, hg0, hg, r⟩⟩ := h
  · exact ⟨h1, .inl h⟩
  · exact ⟨h1, .inr ⟨g, cap, cur, hv, hg0, blk_alloc hg _, r⟩⟩
theorem own_drew {w : World} {B : Nat} {e : TypeId} {sz n : Nat} {v : Value} {xs : List Value} (h : w.ownsRow B e sz v n xs) : w.drew.ownsRow B e sz v n xs := h
theorem own_ents {w : World} {B : Nat} {v : Value} {es : List Ent} (h : w.ownsRow B 34 3 v es.length (entFlat es)) : EntsAt w v es := by
  obtain ⟨h1, h | ⟨g, cap, cur, hv, hg0, r⟩⟩ := h
  · exact ⟨h1, .inl h⟩
  · exact ⟨h1, .inr ⟨g, cap, cur, hv, Nat.zero_le _, r⟩⟩
theorem entFlat_snoc (es : List Ent) (e : Ent) : entFlat (es ++ [e]) = entFlat es ++ (entCells e).toList := by
  rw [entFlat, List.flatMap_append]; simp [entFlat]
/-! ### what stands in memory -/
/-- Decode's memory: the message at N, the error behind it, the variable of the reader at g, the reader at b; the entries lie behind B -/
structure DS (w : World) (N g b B : Nat) (M : Mg) (v : Value) (r : Rd) (W : World) : Prop where
  msg : W.heap[N]? = some (.cells (mgCells M v) 27 (0, 0))
  err : W.heap[N + 1]? = some (.cells #[.int .i64 0] 29 (0, 0))
  var : W.heap[g]? = some (.cells #[.pointer (some ⟨b, 0, none⟩)] 60 (0, 0))
  rd : IsRd W b r
  own : W.ownsRow B 34 3 v M.es.length (entFlat M.es)
  below : Below w.heap.size w W
  ord : w.heap.size = N ∧ N + 1 < g ∧ N + 1 < b ∧ g ≠ b ∧ g < B ∧ b < B ∧ B ≤ W.heap.size
theorem DS.step {w W W' : World} {N g b B : Nat} {M : Mg} {v : Value} {r r' : Rd} (h : DS w N g b B M v r W) (hr : IsRd W' b r') (hb : But W.heap.size b W W') : DS w N g b B M v r' W' := by
  obtain ⟨h1, h2, h3, h4, h5, h6, e0, e1, e2, e3, e4, e5, e6⟩ := h
  refine ⟨blk_but hb (blk_lt h1) (by omega) h1, blk_but hb (blk_lt h2) (by omega) h2, blk_but hb (blk_lt h3) e3 h3, hr, own_but h5 hb (Nat.le_refl _) e5, ?_, e0, e1, e2, e3, e4, e5, Nat.le_trans e6 hb.size⟩
  exact h6.trans ((hb.mono (B' := w.heap.size) (by omega)).below (by omega))
theorem DS.drew {w W : World} {N g b B : Nat} {M : Mg} {v : Value} {r : Rd} (h : DS w N g b B M v r W) : DS w N g b B M v r W.drew :=
  ⟨h.msg, h.err, h.var, h.rd, h.own, h.below.drew, h.ord⟩
theorem DS.cell {w W : World} {N g b B : Nat} {M : Mg} {v : Value} {r : Rd} (h : DS w N g b B M v r W) : W.cell? ⟨g, 0, none⟩ = some (.pointer (some ⟨b, 0, none⟩)) := blk_cell h.var 0
/-- a store into the message -/
theorem DS.put {w W W' : World} {N g b B : Nat} {M M' : Mg} {v v' : Value} {r : Rd} (h : DS w N g b B M v r W) (hm : W'.heap[N]? = some (.cells (mgCells M' v') 27 (0, 0))) (hb : But W.heap.size N W W')
    (ho : W'.ownsRow B 34 3 v' M'.es.length (entFlat M'.es)) : DS w N g b B M' v' r W' := by
  obtain ⟨h1, h2, h3, h4, h5, h6, e0, e1, e2, e3, e4, e5, e6⟩ := h
  refine ⟨hm, blk_but hb (blk_lt h2) (by omega) h2, blk_but hb (blk_lt h3) (by omega) h3, rd_but hb (blk_lt h4) (by omega) h4, ho, ?_, e0, e1, e2, e3, e4, e5, Nat.le_trans e6 hb.size⟩
  exact h6.trans ((hb.mono (B' := w.heap.size) (by omega)).below (by omega))
/-! ### reasons -/
theorem bad_small (t : Bs) (k : Nat) (hk : k < 3) (h : ¬ nth k (some t) ≤ 64) : good t = false := by
  have hc : checkB (parse t) = false := by
    cases hc : checkB (parse t) with
    | false => rfl
    | true =>
      have hf := checkB_facts hc
      have e0 : (parse t).k = ((min (nth 0 (some t)) 99 : Nat) : Int) := rfl
      have e1 : (parse t).f = ((min (nth 1 (some t)) 99 : Nat) : Int) := rfl
      have e2 : (parse t).t = ((min (nth 2 (some t)) 99 : Nat) : Int) := rfl
      have : k = 0 ∨ k = 1 ∨ k = 2 := by omega
      rcases this with rfl | rfl | rfl <;> omega
  rw [good, hc, Bool.and_false, Bool.false_and]
theorem left_none (t : Bs) (h : (rents (min (nth 7 (some t)) 99) (after 8 (some t))).2 = none) : good t = false := by
  have : left t = none := by rw [left, h, tail5, after_none]; rfl
  rw [good, this]; rfl
theorem bad_count (t : Bs) (h : ¬ nth 7 (some t) ≤ 64) : good t = false := by
  cases hr : (rents (min (nth 7 (some t)) 99) (after 8 (some t))).2 with
  | none => exact left_none t hr
  | some l =>
    have hl := rents_all _ _ _ hr
    have hc : checkB (parse t) = false := by
      cases hc : checkB (parse t) with
      | false => rfl
      | true =>
        exfalso
        simp only [checkB, chk3, Bool.and_eq_true, decide_eq_true_eq] at hc
        have : (parse t).es.length = min (nth 7 (some t)) 99 := hl
        omega
    rw [good, hc, Bool.and_false, Bool.false_and]
theorem dec_bad {s t : Bs} (ho : open_ s = some t) (h : good t = false) : decB s = (zeroM, 4) := by
  unfold decB; rw [ho]; dsimp only; rw [if_neg (by rw [h]; decide)]
theorem dec_good {s t : Bs} (ho : open_ s = some t) (h : good t = true) : decB s = (parse t, 0) := by
  unfold decB; rw [ho]; dsimp only; rw [if_pos h]
theorem rents_step {r : Rd} {l : Bs} (j : Nat) (h : (rent r).2 = some l) : rents (j + 1) r = ((rent r).1 :: (rents j (rent r).2).1, (rents j (rent r).2).2) := by
  cases r with
  | none => exact absurd h (by simp [rent, rnum, rtext])
  | some s => rfl
theorem rents_stop {r : Rd} (j : Nat) (h : (rent r).2 = none) : (rents (j + 1) r).2 = none := by
  cases r with
  | none => rfl
  | some s => rw [rents, h, rents_none]
/-- k entries of n have been read -/
def Half (n k : Nat) (r0 : Rd) (acc : List Ent) (r : Rd) : Prop := k ≤ n ∧ acc.length = k ∧ rents n r0 = (acc ++ (rents (n - k) r).1, (rents (n - k) r).2)
theorem Half.zero (n : Nat) (r0 : Rd) : Half n 0 r0 [] r0 := ⟨Nat.zero_le _, rfl, by simp⟩
theorem Half.next {n k : Nat} {r0 r : Rd} {acc : List Ent} {l : Bs} (h : Half n k r0 acc r) (hk : k < n) (hr : (rent r).2 = some l) : Half n (k + 1) r0 (acc ++ [(rent r).1]) (rent r).2 := by
  obtain ⟨h1, h2, h3⟩ := h
  refine ⟨hk, by simp [h2], ?_⟩
  rw [show n - k = (n - (k + 1)) + 1 by omega, rents_step _ hr] at h3
  rw [h3]; simp
theorem Half.stop {n k : Nat} {r0 r : Rd} {acc : List Ent} (h : Half n k r0 acc r) (hk : k < n) (hr : (rent r).2 = none) : (rents n r0).2 = none := by
  obtain ⟨h1, h2, h3⟩ := h
  rw [h3, show n - k = (n - (k + 1)) + 1 by omega]
  exact rents_stop _ hr
theorem Half.all {n k : Nat} {r0 r : Rd} {acc : List Ent} (h : Half n k r0 acc r) (hk : k = n) : rents n r0 = (acc, r) := by
  obtain ⟨h1, h2, h3⟩ := h
  rw [h3, hk, Nat.sub_self]; simp [rents]
end Go.Proofs.Ytdemkcnhcgiheaa
