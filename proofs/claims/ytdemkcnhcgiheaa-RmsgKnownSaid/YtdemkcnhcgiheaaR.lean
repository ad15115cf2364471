/- The walks of what Check asks: Check$3, Check$4. -/
import Derived.Test.YtdemkcnhcgiheaaQ
namespace Go.Proofs.Ytdemkcnhcgiheaa
open Go.RowKit
/-- the fourteen cells of a message's block -/
theorem mg_cells {m : Mg} {v : Value} {g : Nat} {w : World} (h : w.heap[g]? = some (.cells (mgCells m v) 27 (0, 0))) :
    w.cell? ⟨g, 0, none⟩ = some (.int .i64 m.k) ∧ w.cell? ⟨g, 1, none⟩ = some (.int .i64 m.f) ∧ w.cell? ⟨g, 2, none⟩ = some (.int .i64 m.t) ∧ w.cell? ⟨g, 3, none⟩ = some (.int .u64 (m.term : Int)) ∧ w.cell? ⟨g, 4, none⟩ = some (.int .u64 (m.ix : Int)) ∧ w.cell? ⟨g, 5, none⟩ = some (.int .u64 (m.lt : Int)) ∧ w.cell? ⟨g, 6, none⟩ = some (.int .u64 (m.cm : Int)) ∧ w.cell? ⟨g, 7, none⟩ = some v ∧ w.cell? ⟨g, 8, none⟩ = some (.bool m.rj) ∧ w.cell? ⟨g, 9, none⟩ = some (.int .u64 (m.hi : Int)) ∧ w.cell? ⟨g, 10, none⟩ = some (.int .u64 (m.cx : Int)) ∧ w.cell? ⟨g, 11, none⟩ = some (.int .u64 (m.si : Int)) ∧ w.cell? ⟨g, 12, none⟩ = some (.int .u64 (m.st : Int)) ∧ w.cell? ⟨g, 13, none⟩ = some (.string (bs m.sd)) :=
  ⟨blk_cell h 0, blk_cell h 1, blk_cell h 2, blk_cell h 3, blk_cell h 4, blk_cell h 5, blk_cell h 6, blk_cell h 7, blk_cell h 8, blk_cell h 9, blk_cell h 10, blk_cell h 11, blk_cell h 12, blk_cell h 13⟩
set_option maxRecDepth 100000 in
set_option maxHeartbeats 1600000 in
theorem check3_any (m : Mg) (v : Value) (g : Nat) (w : World) (hm : m.fit) (hix : m.ix ≤ 1099511627776) (hv : EntsAt w v m.es) (hg : w.heap[g]? = some (.cells (mgCells m v) 27 (0, 0))) :
    Calls Try.prog 34 #[.pointer (some ⟨g, 0, none⟩)] w fun e w' => e = .returned (.bool (decide ((m.k = 3 ∨ m.es.length = 0) ∧ m.es.length ≤ 64) && riseB m.ix m.term 0 1 m.es)) ∧ Below w.heap.size w w' := by
  have hrise := rises_any m v w hm hix hv
  obtain ⟨q, hq⟩ : ∃ q, q = riseB m.ix m.term 0 1 m.es := ⟨_, rfl⟩
  obtain ⟨r, hr⟩ : ∃ r, r = (decide ((m.k = 3 ∨ m.es.length = 0) ∧ m.es.length ≤ 64) && q) := ⟨_, rfl⟩
  rw [← hq] at hrise ⊢
  rw [← hr]
  obtain ⟨A, cap, rfl, hcap, hcells⟩ := hv.form2
  obtain ⟨c0, c1, c2, c3, c4, c5, c6, c7, c8, c9, c10, c11, c12, c13⟩ := mg_cells hg
  have hlen := hm.len
  obtain ⟨k0, f, t, term, ix, lt, cm, es, rj, hi, cx, si, st, sd⟩ := m
  unfold mgCells at hrise
  dsimp only at *
  have HR := Lib.hid hr
  have HRise := Lib.hid hrise
  clear hm hix hv hg hq hcells hr hrise
  have hlen : (es.length : Int) ≤ 1000000 := by omega
  rcases Classical.em (k0 = 3) with rfl | hk3
  · by_cases h64 : (es.length : Int) ≤ 64
    · go_enter Try.func34, Try.ntmps34
      go_wp2_with fail
      refine HRise.out.mono ?_
      rintro e w1 ⟨rfl, hb1⟩
      have HB1 := Lib.hid hb1
      clear hb1
      go_wp2_with fail
      go_ret
      refine ⟨ret_bool ?_, HB1.out⟩
      rw [HR.out, decide_eq_true (p := (True ∨ es.length = 0) ∧ es.length ≤ 64) ⟨.inl trivial, by omega⟩]
      first | done | rfl | simp
    · go_enter Try.func34, Try.ntmps34
      go_wp2_with fail
      go_ret
      refine ⟨ret_bool ?_, Below.refl _ _⟩
      rw [HR.out, decide_eq_false (by omega)]
      first | done | rfl | simp
  · rcases Classical.em (es = []) with rfl | he
    · go_enter Try.func34, Try.ntmps34
      go_wp2_with fail
      refine HRise.out.mono ?_
      rintro e w1 ⟨rfl, hb1⟩
      have HB1 := Lib.hid hb1
      clear hb1
      go_wp2_with fail
      go_ret
      refine ⟨ret_bool ?_, HB1.out⟩
      rw [HR.out, decide_eq_true ⟨.inr rfl, by decide⟩]
      first | done | rfl | simp
    · have he2 : ¬ es.length = 0 := fun h => he (List.length_eq_zero_iff.1 h)
      have HE2 := Lib.hid he2
      clear he2
      go_enter Try.func34, Try.ntmps34
      go_wp2_with fail
      go_ret
      refine ⟨ret_bool ?_, Below.refl _ _⟩
      rw [HR.out, decide_eq_false (fun h => h.1.elim hk3 HE2.out)]
      first | done | rfl | simp
set_option maxRecDepth 100000 in
set_option maxHeartbeats 1600000 in
theorem check4_any (m : Mg) (v : Value) (g : Nat) (w : World) (hm : m.fit) (hg : w.heap[g]? = some (.cells (mgCells m v) 27 (0, 0))) :
    Calls Try.prog 36 #[.pointer (some ⟨g, 0, none⟩)] w fun e w' => e = .returned (.bool (if m.k ≠ 7 then decide (m.si = 0 ∧ m.st = 0 ∧ m.sd = []) else decide (1 ≤ m.si ∧ m.si ≤ 1099511627776 ∧ 1 ≤ m.st ∧ m.st ≤ m.term ∧ m.sd.length ≤ 60000))) ∧ Below w.heap.size w w' := by
  obtain ⟨r, hr⟩ : ∃ r, r = (if m.k ≠ 7 then decide (m.si = 0 ∧ m.st = 0 ∧ m.sd = []) else decide (1 ≤ m.si ∧ m.si ≤ 1099511627776 ∧ 1 ≤ m.st ∧ m.st ≤ m.term ∧ m.sd.length ≤ 60000)) := ⟨_, rfl⟩
  rw [← hr]
  obtain ⟨c0, c1, c2, c3, c4, c5, c6, c7, c8, c9, c10, c11, c12, c13⟩ := mg_cells hg
  have hsd := hm.sd
  obtain ⟨k0, f, t, term, ix, lt, cm, es, rj, hi, cx, si, st, sd⟩ := m
  dsimp only at *
  have HR := Lib.hid hr
  clear hm hg hr c1 c2 c4 c5 c6 c7 c8 c9 c10
  have hsd : (sd.length : Int) ≤ 1000000 := by omega
  by_cases hk7 : k0 = 7
  · subst hk7
    go_enter Try.func36, Try.ntmps36
    go_wp2_with fail
    all_goals
      go_ret
      refine ⟨ret_bool ?_, Below.refl _ _⟩
      rw [HR.out, if_neg (by simp)]
      symm
      first
        | exact decide_eq_false (by omega)
        | (rw [Bool.eq_iff_iff]; simp only [decide_eq_true_eq]; omega)
  · go_enter Try.func36, Try.ntmps36
    go_wp2_with fail
    all_goals
      go_ret
      refine ⟨ret_bool ?_, Below.refl _ _⟩
      rw [HR.out, if_pos hk7]
      symm
      first
        | exact decide_eq_true (by refine ⟨?_, ?_, ?_⟩ <;> assumption)
        | exact decide_eq_false (by rintro ⟨_, _, _⟩; contradiction)
end Go.Proofs.Ytdemkcnhcgiheaa
