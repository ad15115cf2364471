/- (*wire.Reader).Text: the text that stands at a reader's front. Condition: what is left is short. -/
import Derived.Test.YtdemkcnhcgiheaaC
namespace Go.Proofs.Ytdemkcnhcgiheaa
open Go.RowKit
set_option maxHeartbeats 400000 in
theorem text_bad (r : Rd) (b : Nat) (w : World) (hb : IsRd w b r) (hl : (r.getD []).length ≤ 1000000) (hr : rnum r = (0, none)) :
    Calls Try.prog 49 #[.pointer (some ⟨b, 0, none⟩)] w fun e w' => e = .returned (.string (bs [])) ∧ IsRd w' b none ∧ But w.heap.size b w w' := by
  have hlt := blk_lt hb
  have HB := Lib.hid hb
  have HL := Lib.hid hl
  have HR := Lib.hid hr
  clear hb hl hr
  go_enter Try.func49, Try.ntmps49
  go_wp2_with fail
  refine (num_any r b w HB.out HL.out).mono ?_
  rintro e w1 ⟨rfl, hr, hb⟩
  rw [HR.out] at hr ⊢
  have c0 : w1.cell? ⟨b, 0, none⟩ = some (.string (bs [])) := rd_c0 hr
  have f0 := blk_frozen hr 0
  have H3 := Lib.hid hr
  have H4 := Lib.hid hb
  clear hr hb
  go_wp2_with fail
  go_ret
  exact ⟨rfl, blk_set H3.out 0 _, H4.out.set _ _⟩
set_option maxHeartbeats 400000 in
theorem text_over (r : Rd) (n : Nat) (l : Bs) (b : Nat) (w : World) (hb : IsRd w b r) (hl : (r.getD []).length ≤ 1000000) (hr : rnum r = (n, some l)) (_hn : n < 18446744073709551616) (hc : (l.length : Int) < n) :
    Calls Try.prog 49 #[.pointer (some ⟨b, 0, none⟩)] w fun e w' => e = .returned (.string (bs [])) ∧ IsRd w' b none ∧ But w.heap.size b w w' := by
  have hlt := blk_lt hb
  have hll : l.length ≤ 1000000 := by have := rnum_length r; rw [hr] at this; simp at this; omega
  have HB := Lib.hid hb
  have HL := Lib.hid hl
  have HR := Lib.hid hr
  clear hb hl hr
  go_enter Try.func49, Try.ntmps49
  go_wp2_with fail
  refine (num_any r b w HB.out HL.out).mono ?_
  rintro e w1 ⟨rfl, hr, hb⟩
  rw [HR.out] at hr ⊢
  have c0 : w1.cell? ⟨b, 0, none⟩ = some (.string (bs l)) := rd_c0 hr
  have c1 := rd_c1 hr
  have f0 := blk_frozen hr 0
  have f1 := blk_frozen hr 1
  have H3 := Lib.hid hr
  have H4 := Lib.hid hb
  clear hr hb
  go_wp2_with fail
  go_ret
  exact ⟨rfl, rd_set H3.out _ _, (H4.out.set _ _).set _ _⟩
set_option maxHeartbeats 400000 in
theorem text_good (r : Rd) (n : Nat) (l : Bs) (b : Nat) (w : World) (hb : IsRd w b r) (hl : (r.getD []).length ≤ 1000000) (hr : rnum r = (n, some l)) (_hn : n < 18446744073709551616) (hc : (n : Int) ≤ l.length) :
    Calls Try.prog 49 #[.pointer (some ⟨b, 0, none⟩)] w fun e w' => e = .returned (.string (bs (l.take n))) ∧ IsRd w' b (some (l.drop n)) ∧ But w.heap.size b w w' := by
  have hlt := blk_lt hb
  have hll : l.length ≤ 1000000 := by have := rnum_length r; rw [hr] at this; simp at this; omega
  have HB := Lib.hid hb
  have HL := Lib.hid hl
  have HR := Lib.hid hr
  clear hb hl hr
  go_enter Try.func49, Try.ntmps49
  go_wp2_with fail
  refine (num_any r b w HB.out HL.out).mono ?_
  rintro e w1 ⟨rfl, hr, hb⟩
  rw [HR.out] at hr ⊢
  have c0 : w1.cell? ⟨b, 0, none⟩ = some (.string (bs l)) := rd_c0 hr
  have f0 := blk_frozen hr 0
  have H3 := Lib.hid hr
  have H4 := Lib.hid hb
  clear hr hb
  go_wp2_with fail
  go_ret
  exact ⟨rfl, blk_set H3.out 0 _, H4.out.set _ _⟩
theorem rnum_lt {r : Rd} {n : Nat} {l : Bs} (h : rnum r = (n, some l)) : n < 18446744073709551616 := by
  match r, h with
  | none, h => simp [rnum] at h
  | some s, h => exact (rnum_some h).2
/-- (*wire.Reader).Text, of whatever reader -/
theorem text_any (r : Rd) (b : Nat) (w : World) (hb : IsRd w b r) (hl : (r.getD []).length ≤ 1000000) :
    Calls Try.prog 49 #[.pointer (some ⟨b, 0, none⟩)] w fun e w' => e = .returned (.string (bs (rtext r).1)) ∧ IsRd w' b (rtext r).2 ∧ But w.heap.size b w w' := by
  unfold rtext
  cases hr : rnum r with
  | mk n o =>
    cases o with
    | none =>
      obtain rfl := rnum_none hr
      exact text_bad r b w hb hl hr
    | some l =>
      dsimp only
      by_cases hc : l.length < n
      · rw [if_pos hc]; exact text_over r n l b w hb hl hr (rnum_lt hr) (by omega)
      · rw [if_neg hc]; exact text_good r n l b w hb hl hr (rnum_lt hr) (by omega)
theorem rtext_length (r : Rd) : ((rtext r).2.getD []).length ≤ (r.getD []).length := by
  unfold rtext
  have := rnum_length r
  split
  · rename_i n l h
    rw [h] at this
    simp at this
    split <;> simp
    omega
  · simp
end Go.Proofs.Ytdemkcnhcgiheaa
