/- The walk of the document's Check where its first conditions hold. Conditions: numbers are of 64 bits; the entries lie in memory. -/
import Derived.Test.YtdemkcnhcgiheaaU
import Derived.Deep.CutBlock
namespace Go.Proofs.Ytdemkcnhcgiheaa
open Go.RowKit
theorem checkB_iff (m : Mg) : checkB m = true ↔ ((1 ≤ m.k ∧ m.k ≤ 7 ∧ 0 ≤ m.f ∧ m.f ≤ 6 ∧ 0 ≤ m.t ∧ m.t ≤ 6 ∧ m.f ≠ m.t) ∧ (1 ≤ m.term ∧ m.term ≤ 1099511627776 ∧ m.ix ≤ 1099511627776 ∧ m.lt ≤ 1099511627776 ∧ m.cm ≤ 1099511627776 ∧ m.hi ≤ 1099511627776 ∧ m.cx ≤ 1099511627776) ∧ (((m.k = 3 ∨ m.es.length = 0) ∧ m.es.length ≤ 64) ∧ riseB m.ix m.term 0 1 m.es = true) ∧ (m.k ≠ 7 → m.si = 0 ∧ m.st = 0 ∧ m.sd.length = 0) ∧ (m.k = 7 → 1 ≤ m.si ∧ m.si ≤ 1099511627776 ∧ 1 ≤ m.st ∧ m.st ≤ m.term ∧ m.sd.length ≤ 60000)) := by
  have h4 : chk4 m = true ↔ ((m.k ≠ 7 → m.si = 0 ∧ m.st = 0 ∧ m.sd.length = 0) ∧ (m.k = 7 → 1 ≤ m.si ∧ m.si ≤ 1099511627776 ∧ 1 ≤ m.st ∧ m.st ≤ m.term ∧ m.sd.length ≤ 60000)) := by
    rw [List.length_eq_zero_iff]
    by_cases h : m.k = 7
    · simp [chk4, h]
    · simp [chk4, h]
  rw [checkB, Bool.and_eq_true, Bool.and_eq_true, Bool.and_eq_true, h4]
  simp only [chk1, chk2, chk3, Bool.and_eq_true, decide_eq_true_eq]
theorem ret_yes {q : Bool} {a : Int} (ha : a = if q = true then 0 else 2) (h : q = true) : Ending.returned (.int .i64 0) = .returned (.int .i64 a) := by rw [ha, if_pos h]
theorem ret_no {q : Bool} {a : Int} (ha : a = if q = true then 0 else 2) (h : ¬ q = true) : Ending.returned (.int .i64 2) = .returned (.int .i64 a) := by rw [ha, if_neg h]
/-- what the document's Check asks first -/
def Mg.first (m : Mg) : Prop := ((1 ≤ m.k ∧ m.k ≤ 7 ∧ 0 ≤ m.f ∧ m.f ≤ 6 ∧ 0 ≤ m.t ∧ m.t ≤ 6 ∧ m.f ≠ m.t) ∧ (1 ≤ m.term ∧ m.term ≤ 1099511627776 ∧ m.ix ≤ 1099511627776 ∧ m.lt ≤ 1099511627776 ∧ m.cm ≤ 1099511627776 ∧ m.hi ≤ 1099511627776 ∧ m.cx ≤ 1099511627776) ∧ m.es.length ≤ 64)
set_option maxRecDepth 100000 in
set_option maxHeartbeats 40000000 in
theorem refCheck_yes3 (m : Mg) (v : Value) (w : World) (hm : m.fit) (hv : EntsAt w v m.es) (hbig : m.first) (hk3 : m.k = 3) :
    Calls Try.prog 14 #[.agg (mgCells m v)] w fun e w' => e = .returned (.int .i64 (if checkB m then 0 else 2)) ∧ Below w.heap.size w w' := by
  unfold Mg.first at hbig
  have hiff := checkB_iff m
  obtain ⟨k0, f, t, term, ix, lt, cm, es, rj, hi, cx, si, st, sd⟩ := m
  obtain ⟨A, cap, rfl, hcap, hcells⟩ := hv.form2
  obtain ⟨b1, b2, b3, b4, b5, b6, b7, b8, b9, b10, b11⟩ := hm
  dsimp only at *
  obtain ⟨q, hq⟩ : ∃ q, q = checkB { k := k0, f := f, t := t, term := term, ix := ix, lt := lt, cm := cm, es := es, rj := rj, hi := hi, cx := cx, si := si, st := st, sd := sd } := ⟨_, rfl⟩
  rw [← hq] at hiff ⊢
  obtain ⟨r, hr⟩ : ∃ r, r = riseB ix term 0 1 es := ⟨_, rfl⟩
  rw [← hr] at hiff
  have hlen : (es.length : Int) ≤ 1000000 := by omega
  have hsdl : (sd.length : Int) ≤ 1000000 := by omega
  obtain ⟨a, ha⟩ : ∃ a : Int, a = (if q = true then 0 else 2) := ⟨_, rfl⟩
  rw [← ha]
  have HA := Lib.hid ha
  clear ha
  have HQ := Lib.hid hiff
  have HR := Lib.hid hr
  have HC := Lib.hid hcells
  have HE := Lib.hid b9
  clear hr hq hiff hcells hv b9 b2 b3 b4 b5 b6 b7 b8
  unfold mgCells
  obtain ⟨W0, hW0⟩ : ∃ W0 : World, W0 = w.alloc (.cells #[.int .i64 k0, .int .i64 f, .int .i64 t, .int .u64 (term : Int), .int .u64 (ix : Int), .int .u64 (lt : Int), .int .u64 (cm : Int), .slice A es.length cap, .bool rj, .int .u64 (hi : Int), .int .u64 (cx : Int), .int .u64 (si : Int), .int .u64 (st : Int), .string (bs sd)] 27) := ⟨_, rfl⟩
  have hmb : W0.heap[w.heap.size]? = some (.cells #[.int .i64 k0, .int .i64 f, .int .i64 t, .int .u64 (term : Int), .int .u64 (ix : Int), .int .u64 (lt : Int), .int .u64 (cm : Int), .slice A es.length cap, .bool rj, .int .u64 (hi : Int), .int .u64 (cx : Int), .int .u64 (si : Int), .int .u64 (st : Int), .string (bs sd)] 27 (0, 0)) := by rw [hW0]; exact blk_new w _
  have hB0 : Below w.heap.size w W0 := by rw [hW0]; exact (Below.refl _ w).alloc (Nat.le_refl _) _
  have HMB := Lib.hid hmb
  have HW0 := Lib.hid hW0
  have HB0 := Lib.hid hB0
  clear hmb hB0 hW0
  obtain ⟨⟨p1, p2, p3, p4, p5, p6, p7⟩, ⟨p8, p9, p10, p11, p12, p13, p14⟩, p15⟩ := hbig
  subst hk3
  have g1 : ¬ (3 : Int) < 1 := by omega
  have g2 : ¬ 7 < (3 : Int) := by omega
  have g3 : ¬ f < 0 := by omega
  have g4 : ¬ 6 < f := by omega
  have g5 : ¬ t < 0 := by omega
  have g6 : ¬ 6 < t := by omega
  have g8 : ¬ (term : Int) < 1 := by omega
  have g9 : ¬ 1099511627776 < (term : Int) := by omega
  have g10 : ¬ 1099511627776 < (ix : Int) := by omega
  have g11 : ¬ 1099511627776 < (lt : Int) := by omega
  have g12 : ¬ 1099511627776 < (cm : Int) := by omega
  have g13 : ¬ 1099511627776 < (hi : Int) := by omega
  have g14 : ¬ 1099511627776 < (cx : Int) := by omega
  have g15 : ¬ 64 < (es.length : Int) := by omega
  go_enter Try.func14, Try.ntmps14
  go_wp2_with fail
  rw [← HW0.out]
  have C0 := Lib.hid (show W0.cell? ⟨w.heap.size, 0, none⟩ = some (.int .i64 3) from blk_cell HMB.out 0)
  have C3 := Lib.hid (show W0.cell? ⟨w.heap.size, 3, none⟩ = some (.int .u64 (term : Int)) from blk_cell HMB.out 3)
  have C4 := Lib.hid (show W0.cell? ⟨w.heap.size, 4, none⟩ = some (.int .u64 (ix : Int)) from blk_cell HMB.out 4)
  have C7 := Lib.hid (show W0.cell? ⟨w.heap.size, 7, none⟩ = some (.slice A es.length cap) from blk_cell HMB.out 7)
  have C11 := Lib.hid (show W0.cell? ⟨w.heap.size, 11, none⟩ = some (.int .u64 (si : Int)) from blk_cell HMB.out 11)
  have C12 := Lib.hid (show W0.cell? ⟨w.heap.size, 12, none⟩ = some (.int .u64 (st : Int)) from blk_cell HMB.out 12)
  have C13 := Lib.hid (show W0.cell? ⟨w.heap.size, 13, none⟩ = some (.string (bs sd)) from blk_cell HMB.out 13)
  have HL := Lib.hid (blk_lt HMB.out)
  clear g2 g3 g4 g5 g6 g8 g9 g10 g11 g12 g13 g14 g15
  go_loopw [4, 5] (fun v i W => ∃ (k p : Nat), k ≤ es.length ∧ i = .int .i64 k ∧ v = .int .u64 p ∧ Hid (r = riseB ix term k p (es.drop k)) ∧ Hid (Below W0.heap.size W0 W)) (fun _ i _ => es.length - (intOf i).toNat)
  case atStart => exact ⟨0, 1, by omega, rfl, rfl, HR.out, Below.refl _ _⟩
  case round =>
    obtain ⟨k, p, hk, rfl, rfl, hR, hB⟩ := hrel
    have c3 := (hB.out.cell (p := ⟨w.heap.size, 3, none⟩) HL.out).trans C3.out
    have c4 := (hB.out.cell (p := ⟨w.heap.size, 4, none⟩) HL.out).trans C4.out
    have c7 := (hB.out.cell (p := ⟨w.heap.size, 7, none⟩) HL.out).trans C7.out
    have hsz := Nat.lt_of_lt_of_le HL.out hB.out.size
    by_cases hlt : k < es.length
    · obtain ⟨g, rfl, hg, e0, e1, e2⟩ := HC.out k hlt
      have hg0 := Nat.lt_of_lt_of_le hg HB0.out.size
      obtain ⟨et, het⟩ : ∃ x, x = es[k].t := ⟨_, rfl⟩
      obtain ⟨ei, hei⟩ : ∃ x, x = es[k].i := ⟨_, rfl⟩
      obtain ⟨ed, hed⟩ : ∃ x, x = es[k].d := ⟨_, rfl⟩
      have d0 : wr.cell? ⟨g, k * 3, none⟩ = some (.int .u64 (et : Int)) := by rw [hB.out.cell (p := ⟨g, k * 3, none⟩) hg0, HB0.out.cell (p := ⟨g, k * 3, none⟩) hg, het]; exact e0
      have d1 : wr.cell? ⟨g, k * 3 + 1, none⟩ = some (.int .u64 (ei : Int)) := by rw [hB.out.cell (p := ⟨g, k * 3 + 1, none⟩) hg0, HB0.out.cell (p := ⟨g, k * 3 + 1, none⟩) hg, hei]; exact e1
      have d2 : wr.cell? ⟨g, k * 3 + 2, none⟩ = some (.string (bs ed)) := by rw [hB.out.cell (p := ⟨g, k * 3 + 2, none⟩) hg0, HB0.out.cell (p := ⟨g, k * 3 + 2, none⟩) hg, hed]; exact e2
      have hek := HE.out es[k] (List.getElem_mem hlt)
      have q1 := hek.t
      have q2 := hek.i
      have q3 := hek.d
      have HY := Lib.hid (@riseB_yes ix term k p es hlt)
      have HN := Lib.hid (@riseB_no ix term k p es hlt)
      rw [← het, ← hei, ← hed] at HY HN
      rw [← het] at q1
      rw [← hei] at q2
      rw [← hed] at q3
      clear e0 e1 e2 hek het hei hed
      go_wp2_with fail
      all_goals first
        | (refine ⟨⟨k + 1, et, by omega, by go_num, rfl, ?_, ?_⟩, by simp [intOf]; omega⟩
           · exact hR.out.trans (HY.out (by omega))
           · exact hB.out.alloc hB.out.size _)
        | (go_ret
           refine ⟨ret_no HA.out (fun hq => ?_), (HB0.out.trans (hB.out.mono HB0.out.size)).alloc (by omega) _⟩
           have hz := (HQ.out.1 hq).2.2.1.2
           rw [hR.out, HN.out (by omega)] at hz
           exact absurd hz (by decide))
    · obtain rfl : k = es.length := by omega
      rw [List.drop_length] at hR
      have hr1 : r = true := hR.out
      have c0 := (hB.out.cell (p := ⟨w.heap.size, 0, none⟩) HL.out).trans C0.out
      have c11 := (hB.out.cell (p := ⟨w.heap.size, 11, none⟩) HL.out).trans C11.out
      have c12 := (hB.out.cell (p := ⟨w.heap.size, 12, none⟩) HL.out).trans C12.out
      have c13 := (hB.out.cell (p := ⟨w.heap.size, 13, none⟩) HL.out).trans C13.out
      have HR1 := Lib.hid hr1
      clear hr1
      · have hk7b : ¬ (3 : Int) = 7 := by decide
        go_wp2_with fail
        all_goals
          go_ret
          refine ⟨?_, HB0.out.trans (hB.out.mono HB0.out.size)⟩
          first
            | (refine ret_no HA.out (fun hq => ?_)
               have hz := (HQ.out.1 hq).2.2.2.1 hk7b
               first
                 | omega
                 | exact absurd (List.length_eq_zero_iff.1 hz.2.2) (by assumption))
            | (refine ret_yes HA.out (HQ.out.2 ⟨?_, ?_, ⟨⟨?_, ?_⟩, HR1.out⟩, fun _ => ⟨by omega, by omega, List.length_eq_zero_iff.2 (by assumption)⟩, fun h => absurd h hk7b⟩) <;> first | omega | exact .inl rfl | exact .inl trivial)
set_option maxRecDepth 100000 in
set_option maxHeartbeats 40000000 in
theorem refCheck_yes0 (m : Mg) (v : Value) (w : World) (hm : m.fit) (hv : EntsAt w v m.es) (hbig : m.first) (hk3 : ¬ m.k = 3) (he : m.es.length = 0) :
    Calls Try.prog 14 #[.agg (mgCells m v)] w fun e w' => e = .returned (.int .i64 (if checkB m then 0 else 2)) ∧ Below w.heap.size w w' := by
  unfold Mg.first at hbig
  have hiff := checkB_iff m
  obtain ⟨k0, f, t, term, ix, lt, cm, es, rj, hi, cx, si, st, sd⟩ := m
  obtain ⟨A, cap, rfl, hcap, hcells⟩ := hv.form2
  obtain ⟨b1, b2, b3, b4, b5, b6, b7, b8, b9, b10, b11⟩ := hm
  dsimp only at *
  obtain ⟨q, hq⟩ : ∃ q, q = checkB { k := k0, f := f, t := t, term := term, ix := ix, lt := lt, cm := cm, es := es, rj := rj, hi := hi, cx := cx, si := si, st := st, sd := sd } := ⟨_, rfl⟩
  rw [← hq] at hiff ⊢
  obtain ⟨r, hr⟩ : ∃ r, r = riseB ix term 0 1 es := ⟨_, rfl⟩
  rw [← hr] at hiff
  have hlen : (es.length : Int) ≤ 1000000 := by omega
  have hsdl : (sd.length : Int) ≤ 1000000 := by omega
  obtain ⟨a, ha⟩ : ∃ a : Int, a = (if q = true then 0 else 2) := ⟨_, rfl⟩
  rw [← ha]
  have HA := Lib.hid ha
  clear ha
  have HQ := Lib.hid hiff
  have HR := Lib.hid hr
  have HC := Lib.hid hcells
  have HE := Lib.hid b9
  clear hr hq hiff hcells hv b9 b2 b3 b4 b5 b6 b7 b8
  unfold mgCells
  obtain ⟨W0, hW0⟩ : ∃ W0 : World, W0 = w.alloc (.cells #[.int .i64 k0, .int .i64 f, .int .i64 t, .int .u64 (term : Int), .int .u64 (ix : Int), .int .u64 (lt : Int), .int .u64 (cm : Int), .slice A es.length cap, .bool rj, .int .u64 (hi : Int), .int .u64 (cx : Int), .int .u64 (si : Int), .int .u64 (st : Int), .string (bs sd)] 27) := ⟨_, rfl⟩
  have hmb : W0.heap[w.heap.size]? = some (.cells #[.int .i64 k0, .int .i64 f, .int .i64 t, .int .u64 (term : Int), .int .u64 (ix : Int), .int .u64 (lt : Int), .int .u64 (cm : Int), .slice A es.length cap, .bool rj, .int .u64 (hi : Int), .int .u64 (cx : Int), .int .u64 (si : Int), .int .u64 (st : Int), .string (bs sd)] 27 (0, 0)) := by rw [hW0]; exact blk_new w _
  have hB0 : Below w.heap.size w W0 := by rw [hW0]; exact (Below.refl _ w).alloc (Nat.le_refl _) _
  have HMB := Lib.hid hmb
  have HW0 := Lib.hid hW0
  have HB0 := Lib.hid hB0
  clear hmb hB0 hW0
  obtain ⟨⟨p1, p2, p3, p4, p5, p6, p7⟩, ⟨p8, p9, p10, p11, p12, p13, p14⟩, p15⟩ := hbig
  have g1 : ¬ k0 < 1 := by omega
  have g2 : ¬ 7 < k0 := by omega
  have g3 : ¬ f < 0 := by omega
  have g4 : ¬ 6 < f := by omega
  have g5 : ¬ t < 0 := by omega
  have g6 : ¬ 6 < t := by omega
  have g8 : ¬ (term : Int) < 1 := by omega
  have g9 : ¬ 1099511627776 < (term : Int) := by omega
  have g10 : ¬ 1099511627776 < (ix : Int) := by omega
  have g11 : ¬ 1099511627776 < (lt : Int) := by omega
  have g12 : ¬ 1099511627776 < (cm : Int) := by omega
  have g13 : ¬ 1099511627776 < (hi : Int) := by omega
  have g14 : ¬ 1099511627776 < (cx : Int) := by omega
  have g15 : ¬ 64 < (es.length : Int) := by omega
  have g16 : ¬ 0 < (es.length : Int) := by omega
  have HE0 := Lib.hid he
  clear he
  go_enter Try.func14, Try.ntmps14
  go_wp2_with fail
  rw [← HW0.out]
  have C0 := Lib.hid (show W0.cell? ⟨w.heap.size, 0, none⟩ = some (.int .i64 k0) from blk_cell HMB.out 0)
  have C3 := Lib.hid (show W0.cell? ⟨w.heap.size, 3, none⟩ = some (.int .u64 (term : Int)) from blk_cell HMB.out 3)
  have C4 := Lib.hid (show W0.cell? ⟨w.heap.size, 4, none⟩ = some (.int .u64 (ix : Int)) from blk_cell HMB.out 4)
  have C7 := Lib.hid (show W0.cell? ⟨w.heap.size, 7, none⟩ = some (.slice A es.length cap) from blk_cell HMB.out 7)
  have C11 := Lib.hid (show W0.cell? ⟨w.heap.size, 11, none⟩ = some (.int .u64 (si : Int)) from blk_cell HMB.out 11)
  have C12 := Lib.hid (show W0.cell? ⟨w.heap.size, 12, none⟩ = some (.int .u64 (st : Int)) from blk_cell HMB.out 12)
  have C13 := Lib.hid (show W0.cell? ⟨w.heap.size, 13, none⟩ = some (.string (bs sd)) from blk_cell HMB.out 13)
  have HL := Lib.hid (blk_lt HMB.out)
  clear g2 g3 g4 g5 g6 g8 g9 g10 g11 g12 g13 g14 g15
  go_loopw [4, 5] (fun v i W => ∃ (k p : Nat), k ≤ es.length ∧ i = .int .i64 k ∧ v = .int .u64 p ∧ Hid (r = riseB ix term k p (es.drop k)) ∧ Hid (Below W0.heap.size W0 W)) (fun _ i _ => es.length - (intOf i).toNat)
  case atStart => exact ⟨0, 1, by omega, rfl, rfl, HR.out, Below.refl _ _⟩
  case round =>
    obtain ⟨k, p, hk, rfl, rfl, hR, hB⟩ := hrel
    have c3 := (hB.out.cell (p := ⟨w.heap.size, 3, none⟩) HL.out).trans C3.out
    have c4 := (hB.out.cell (p := ⟨w.heap.size, 4, none⟩) HL.out).trans C4.out
    have c7 := (hB.out.cell (p := ⟨w.heap.size, 7, none⟩) HL.out).trans C7.out
    have hsz := Nat.lt_of_lt_of_le HL.out hB.out.size
    by_cases hlt : k < es.length
    · exact absurd hlt (by have := HE0.out; omega)
    · obtain rfl : k = es.length := by omega
      rw [List.drop_length] at hR
      have hr1 : r = true := hR.out
      have c0 := (hB.out.cell (p := ⟨w.heap.size, 0, none⟩) HL.out).trans C0.out
      have c11 := (hB.out.cell (p := ⟨w.heap.size, 11, none⟩) HL.out).trans C11.out
      have c12 := (hB.out.cell (p := ⟨w.heap.size, 12, none⟩) HL.out).trans C12.out
      have c13 := (hB.out.cell (p := ⟨w.heap.size, 13, none⟩) HL.out).trans C13.out
      have HR1 := Lib.hid hr1
      clear hr1
      by_cases hk7 : k0 = 7
      · subst hk7
        go_wp2_with fail
        all_goals
          go_ret
          refine ⟨?_, HB0.out.trans (hB.out.mono HB0.out.size)⟩
          first
            | (refine ret_no HA.out (fun hq => ?_)
               have hz := (HQ.out.1 hq).2.2.2.2
               simp only [forall_const] at hz
               omega)
            | (refine ret_yes HA.out (HQ.out.2 ⟨?_, ?_, ⟨⟨?_, ?_⟩, HR1.out⟩, ?_, fun _ => ⟨by omega, by omega, by omega, by omega, by omega⟩⟩)
               all_goals first | omega | exact .inr HE0.out | exact .inr (by first | trivial | simp) | simp)
      · have hk7b : ¬ k0 = 7 := hk7
        go_wp2_with fail
        all_goals
          go_ret
          refine ⟨?_, HB0.out.trans (hB.out.mono HB0.out.size)⟩
          first
            | (refine ret_no HA.out (fun hq => ?_)
               have hz := (HQ.out.1 hq).2.2.2.1 hk7b
               first
                 | omega
                 | exact absurd (List.length_eq_zero_iff.1 hz.2.2) (by assumption))
            | (refine ret_yes HA.out (HQ.out.2 ⟨?_, ?_, ⟨⟨?_, ?_⟩, HR1.out⟩, fun _ => ⟨by omega, by omega, List.length_eq_zero_iff.2 (by assumption)⟩, fun h => absurd h hk7b⟩) <;> first | omega | exact .inl rfl | exact .inl trivial)
set_option maxRecDepth 100000 in
set_option maxHeartbeats 40000000 in
theorem refCheck_yes4 (m : Mg) (v : Value) (w : World) (hm : m.fit) (hv : EntsAt w v m.es) (hbig : m.first) (hk3 : ¬ m.k = 3) (he : ¬ m.es.length = 0) :
    Calls Try.prog 14 #[.agg (mgCells m v)] w fun e w' => e = .returned (.int .i64 (if checkB m then 0 else 2)) ∧ Below w.heap.size w w' := by
  unfold Mg.first at hbig
  have hiff := checkB_iff m
  obtain ⟨k0, f, t, term, ix, lt, cm, es, rj, hi, cx, si, st, sd⟩ := m
  obtain ⟨A, cap, rfl, hcap, hcells⟩ := hv.form2
  obtain ⟨b1, b2, b3, b4, b5, b6, b7, b8, b9, b10, b11⟩ := hm
  dsimp only at *
  obtain ⟨q, hq⟩ : ∃ q, q = checkB { k := k0, f := f, t := t, term := term, ix := ix, lt := lt, cm := cm, es := es, rj := rj, hi := hi, cx := cx, si := si, st := st, sd := sd } := ⟨_, rfl⟩
  rw [← hq] at hiff ⊢
  obtain ⟨r, hr⟩ : ∃ r, r = riseB ix term 0 1 es := ⟨_, rfl⟩
  rw [← hr] at hiff
  have hlen : (es.length : Int) ≤ 1000000 := by omega
  have hsdl : (sd.length : Int) ≤ 1000000 := by omega
  obtain ⟨a, ha⟩ : ∃ a : Int, a = (if q = true then 0 else 2) := ⟨_, rfl⟩
  rw [← ha]
  have HA := Lib.hid ha
  clear ha
  have HQ := Lib.hid hiff
  have HR := Lib.hid hr
  have HC := Lib.hid hcells
  have HE := Lib.hid b9
  clear hr hq hiff hcells hv b9 b2 b3 b4 b5 b6 b7 b8
  unfold mgCells
  obtain ⟨W0, hW0⟩ : ∃ W0 : World, W0 = w.alloc (.cells #[.int .i64 k0, .int .i64 f, .int .i64 t, .int .u64 (term : Int), .int .u64 (ix : Int), .int .u64 (lt : Int), .int .u64 (cm : Int), .slice A es.length cap, .bool rj, .int .u64 (hi : Int), .int .u64 (cx : Int), .int .u64 (si : Int), .int .u64 (st : Int), .string (bs sd)] 27) := ⟨_, rfl⟩
  have hmb : W0.heap[w.heap.size]? = some (.cells #[.int .i64 k0, .int .i64 f, .int .i64 t, .int .u64 (term : Int), .int .u64 (ix : Int), .int .u64 (lt : Int), .int .u64 (cm : Int), .slice A es.length cap, .bool rj, .int .u64 (hi : Int), .int .u64 (cx : Int), .int .u64 (si : Int), .int .u64 (st : Int), .string (bs sd)] 27 (0, 0)) := by rw [hW0]; exact blk_new w _
  have hB0 : Below w.heap.size w W0 := by rw [hW0]; exact (Below.refl _ w).alloc (Nat.le_refl _) _
  have HMB := Lib.hid hmb
  have HW0 := Lib.hid hW0
  have HB0 := Lib.hid hB0
  clear hmb hB0 hW0
  obtain ⟨⟨p1, p2, p3, p4, p5, p6, p7⟩, ⟨p8, p9, p10, p11, p12, p13, p14⟩, p15⟩ := hbig
  have g1 : ¬ k0 < 1 := by omega
  have g2 : ¬ 7 < k0 := by omega
  have g3 : ¬ f < 0 := by omega
  have g4 : ¬ 6 < f := by omega
  have g5 : ¬ t < 0 := by omega
  have g6 : ¬ 6 < t := by omega
  have g8 : ¬ (term : Int) < 1 := by omega
  have g9 : ¬ 1099511627776 < (term : Int) := by omega
  have g10 : ¬ 1099511627776 < (ix : Int) := by omega
  have g11 : ¬ 1099511627776 < (lt : Int) := by omega
  have g12 : ¬ 1099511627776 < (cm : Int) := by omega
  have g13 : ¬ 1099511627776 < (hi : Int) := by omega
  have g14 : ¬ 1099511627776 < (cx : Int) := by omega
  have g15 : ¬ 64 < (es.length : Int) := by omega
  have g16 : 0 < (es.length : Int) := by omega
  have HE0 := Lib.hid he
  clear he
  go_enter Try.func14, Try.ntmps14
  go_wp2_with fail
  all_goals first
    | (go_ret
       refine ⟨ret_no HA.out (fun hq => ?_), (Below.refl _ w).alloc (Nat.le_refl _) _⟩
       have hz := HQ.out.1 hq
       have he0 := HE0.out
       omega)
    | (exfalso
       rename_i hbad
       first
         | (rcases hbad with hbad | hbad
            · simp_all
            · exact hbad (by omega))
         | simp_all)
end Go.Proofs.Ytdemkcnhcgiheaa
