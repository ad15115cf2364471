/- what the document's Check answers where one of its first conditions fails -/
import Derived.Test.YtdemkcnhcgiheaaVB
namespace Go.Proofs.Ytdemkcnhcgiheaa
open Go.RowKit
set_option maxRecDepth 100000 in
set_option maxHeartbeats 40000000 in
theorem refCheck_no8 (m : Mg) (v : Value) (w : World) (hm : m.fit) (hv : EntsAt w v m.es) (h0 : ¬ m.k < 1) (h1 : ¬ 7 < m.k) (h2 : ¬ m.f < 0) (h3 : ¬ 6 < m.f) (h4 : ¬ m.t < 0) (h5 : ¬ 6 < m.t) (h6 : ¬ m.f = m.t) (h7 : ¬ (m.term : Int) < 1) (h8 : 1099511627776 < (m.term : Int)) :
    Calls Try.prog 14 #[.agg (mgCells m v)] w fun e w' => e = .returned (.int .i64 (if checkB m then 0 else 2)) ∧ Below w.heap.size w w' := by
  have hiff := checkB_iff m
  obtain ⟨k0, f, t, term, ix, lt, cm, es, rj, hi, cx, si, st, sd⟩ := m
  obtain ⟨A, cap, rfl, hcap, hcells⟩ := hv.form2
  obtain ⟨b1, b2, b3, b4, b5, b6, b7, b8, b9, b10, b11⟩ := hm
  dsimp only at *
  obtain ⟨q, hq⟩ : ∃ q, q = checkB { k := k0, f := f, t := t, term := term, ix := ix, lt := lt, cm := cm, es := es, rj := rj, hi := hi, cx := cx, si := si, st := st, sd := sd } := ⟨_, rfl⟩
  rw [← hq] at hiff ⊢
  obtain ⟨r, hr⟩ : ∃ r, r = riseB ix term 0 1 es := ⟨_, rfl⟩
  rw [← hr] at hiff
  have hlen : (es.length : Int) ≤ 1000000 := by omega
  have hsdl : (sd.length : Int) ≤ 1000000 := by omega
  obtain ⟨a, ha⟩ : ∃ a : Int, a = (if q = true then 0 else 2) := ⟨_, rfl⟩
  rw [← ha]
  have HA := Lib.hid ha
  clear ha
  have HQ := Lib.hid hiff
  have HR := Lib.hid hr
  have HC := Lib.hid hcells
  have HE := Lib.hid b9
  have HNO := Lib.hid (show ¬ q = true by intro hq; have hz := hiff.1 hq; omega)
  clear hr hq hiff hcells hv b9 b2 b3 b4 b5 b6 b7 b8 HQ HR HC HE
  unfold mgCells
  go_enter Try.func14, Try.ntmps14
  go_wp2_with fail
  go_ret
  exact ⟨ret_no HA.out HNO.out, (Below.refl _ w).alloc (Nat.le_refl _) _⟩
set_option maxRecDepth 100000 in
set_option maxHeartbeats 40000000 in
theorem refCheck_no9 (m : Mg) (v : Value) (w : World) (hm : m.fit) (hv : EntsAt w v m.es) (h0 : ¬ m.k < 1) (h1 : ¬ 7 < m.k) (h2 : ¬ m.f < 0) (h3 : ¬ 6 < m.f) (h4 : ¬ m.t < 0) (h5 : ¬ 6 < m.t) (h6 : ¬ m.f = m.t) (h7 : ¬ (m.term : Int) < 1) (h8 : ¬ 1099511627776 < (m.term : Int)) (h9 : 1099511627776 < (m.ix : Int)) :
    Calls Try.prog 14 #[.agg (mgCells m v)] w fun e w' => e = .returned (.int .i64 (if checkB m then 0 else 2)) ∧ Below w.heap.size w w' := by
  have hiff := checkB_iff m
  obtain ⟨k0, f, t, term, ix, lt, cm, es, rj, hi, cx, si, st, sd⟩ := m
  obtain ⟨A, cap, rfl, hcap, hcells⟩ := hv.form2
  obtain ⟨b1, b2, b3, b4, b5, b6, b7, b8, b9, b10, b11⟩ := hm
  dsimp only at *
  obtain ⟨q, hq⟩ : ∃ q, q = checkB { k := k0, f := f, t := t, term := term, ix := ix, lt := lt, cm := cm, es := es, rj := rj, hi := hi, cx := cx, si := si, st := st, sd := sd } := ⟨_, rfl⟩
  rw [← hq] at hiff ⊢
  obtain ⟨r, hr⟩ : ∃ r, r = riseB ix term 0 1 es := ⟨_, rfl⟩
  rw [← hr] at hiff
  have hlen : (es.length : Int) ≤ 1000000 := by omega
  have hsdl : (sd.length : Int) ≤ 1000000 := by omega
  obtain ⟨a, ha⟩ : ∃ a : Int, a = (if q = true then 0 else 2) := ⟨_, rfl⟩
  rw [← ha]
  have HA := Lib.hid ha
  clear ha
  have HQ := Lib.hid hiff
  have HR := Lib.hid hr
  have HC := Lib.hid hcells
  have HE := Lib.hid b9
  have HNO := Lib.hid (show ¬ q = true by intro hq; have hz := hiff.1 hq; omega)
  clear hr hq hiff hcells hv b9 b2 b3 b4 b5 b6 b7 b8 HQ HR HC HE
  unfold mgCells
  go_enter Try.func14, Try.ntmps14
  go_wp2_with fail
  go_ret
  exact ⟨ret_no HA.out HNO.out, (Below.refl _ w).alloc (Nat.le_refl _) _⟩
set_option maxRecDepth 100000 in
set_option maxHeartbeats 40000000 in
theorem refCheck_no10 (m : Mg) (v : Value) (w : World) (hm : m.fit) (hv : EntsAt w v m.es) (h0 : ¬ m.k < 1) (h1 : ¬ 7 < m.k) (h2 : ¬ m.f < 0) (h3 : ¬ 6 < m.f) (h4 : ¬ m.t < 0) (h5 : ¬ 6 < m.t) (h6 : ¬ m.f = m.t) (h7 : ¬ (m.term : Int) < 1) (h8 : ¬ 1099511627776 < (m.term : Int)) (h9 : ¬ 1099511627776 < (m.ix : Int)) (h10 : 1099511627776 < (m.lt : Int)) :
    Calls Try.prog 14 #[.agg (mgCells m v)] w fun e w' => e = .returned (.int .i64 (if checkB m then 0 else 2)) ∧ Below w.heap.size w w' := by
  have hiff := checkB_iff m
  obtain ⟨k0, f, t, term, ix, lt, cm, es, rj, hi, cx, si, st, sd⟩ := m
  obtain ⟨A, cap, rfl, hcap, hcells⟩ := hv.form2
  obtain ⟨b1, b2, b3, b4, b5, b6, b7, b8, b9, b10, b11⟩ := hm
  dsimp only at *
  obtain ⟨q, hq⟩ : ∃ q, q = checkB { k := k0, f := f, t := t, term := term, ix := ix, lt := lt, cm := cm, es := es, rj := rj, hi := hi, cx := cx, si := si, st := st, sd := sd } := ⟨_, rfl⟩
  rw [← hq] at hiff ⊢
  obtain ⟨r, hr⟩ : ∃ r, r = riseB ix term 0 1 es := ⟨_, rfl⟩
  rw [← hr] at hiff
  have hlen : (es.length : Int) ≤ 1000000 := by omega
  have hsdl : (sd.length : Int) ≤ 1000000 := by omega
  obtain ⟨a, ha⟩ : ∃ a : Int, a = (if q = true then 0 else 2) := ⟨_, rfl⟩
  rw [← ha]
  have HA := Lib.hid ha
  clear ha
  have HQ := Lib.hid hiff
  have HR := Lib.hid hr
  have HC := Lib.hid hcells
  have HE := Lib.hid b9
  have HNO := Lib.hid (show ¬ q = true by intro hq; have hz := hiff.1 hq; omega)
  clear hr hq hiff hcells hv b9 b2 b3 b4 b5 b6 b7 b8 HQ HR HC HE
  unfold mgCells
  go_enter Try.func14, Try.ntmps14
  go_wp2_with fail
  go_ret
  exact ⟨ret_no HA.out HNO.out, (Below.refl _ w).alloc (Nat.le_refl _) _⟩
set_option maxRecDepth 100000 in
set_option maxHeartbeats 40000000 in
theorem refCheck_no11 (m : Mg) (v : Value) (w : World) (hm : m.fit) (hv : EntsAt w v m.es) (h0 : ¬ m.k < 1) (h1 : ¬ 7 < m.k) (h2 : ¬ m.f < 0) (h3 : ¬ 6 < m.f) (h4 : ¬ m.t < 0) (h5 : ¬ 6 < m.t) (h6 : ¬ m.f = m.t) (h7 : ¬ (m.term : Int) < 1) (h8 : ¬ 1099511627776 < (m.term : Int)) (h9 : ¬ 1099511627776 < (m.ix : Int)) (h10 : ¬ 1099511627776 < (m.lt : Int)) (h11 : 1099511627776 < (m.cm : Int)) :
    Calls Try.prog 14 #[.agg (mgCells m v)] w fun e w' => e = .returned (.int .i64 (if checkB m then 0 else 2)) ∧ Below w.heap.size w w' := by
  have hiff := checkB_iff m
  obtain ⟨k0, f, t, term, ix, lt, cm, es, rj, hi, cx, si, st, sd⟩ := m
  obtain ⟨A, cap, rfl, hcap, hcells⟩ := hv.form2
  obtain ⟨b1, b2, b3, b4, b5, b6, b7, b8, b9, b10, b11⟩ := hm
  dsimp only at *
  obtain ⟨q, hq⟩ : ∃ q, q = checkB { k := k0, f := f, t := t, term := term, ix := ix, lt := lt, cm := cm, es := es, rj := rj, hi := hi, cx := cx, si := si, st := st, sd := sd } := ⟨_, rfl⟩
  rw [← hq] at hiff ⊢
  obtain ⟨r, hr⟩ : ∃ r, r = riseB ix term 0 1 es := ⟨_, rfl⟩
  rw [← hr] at hiff
  have hlen : (es.length : Int) ≤ 1000000 := by omega
  have hsdl : (sd.length : Int) ≤ 1000000 := by omega
  obtain ⟨a, ha⟩ : ∃ a : Int, a = (if q = true then 0 else 2) := ⟨_, rfl⟩
  rw [← ha]
  have HA := Lib.hid ha
  clear ha
  have HQ := Lib.hid hiff
  have HR := Lib.hid hr
  have HC := Lib.hid hcells
  have HE := Lib.hid b9
  have HNO := Lib.hid (show ¬ q = true by intro hq; have hz := hiff.1 hq; omega)
  clear hr hq hiff hcells hv b9 b2 b3 b4 b5 b6 b7 b8 HQ HR HC HE
  unfold mgCells
  go_enter Try.func14, Try.ntmps14
  go_wp2_with fail
  go_ret
  exact ⟨ret_no HA.out HNO.out, (Below.refl _ w).alloc (Nat.le_refl _) _⟩
set_option maxRecDepth 100000 in
set_option maxHeartbeats 40000000 in
theorem refCheck_no12 (m : Mg) (v : Value) (w : World) (hm : m.fit) (hv : EntsAt w v m.es) (h0 : ¬ m.k < 1) (h1 : ¬ 7 < m.k) (h2 : ¬ m.f < 0) (h3 : ¬ 6 < m.f) (h4 : ¬ m.t < 0) (h5 : ¬ 6 < m.t) (h6 : ¬ m.f = m.t) (h7 : ¬ (m.term : Int) < 1) (h8 : ¬ 1099511627776 < (m.term : Int)) (h9 : ¬ 1099511627776 < (m.ix : Int)) (h10 : ¬ 1099511627776 < (m.lt : Int)) (h11 : ¬ 1099511627776 < (m.cm : Int)) (h12 : 1099511627776 < (m.hi : Int)) :
    Calls Try.prog 14 #[.agg (mgCells m v)] w fun e w' => e = .returned (.int .i64 (if checkB m then 0 else 2)) ∧ Below w.heap.size w w' := by
  have hiff := checkB_iff m
  obtain ⟨k0, f, t, term, ix, lt, cm, es, rj, hi, cx, si, st, sd⟩ := m
  obtain ⟨A, cap, rfl, hcap, hcells⟩ := hv.form2
  obtain ⟨b1, b2, b3, b4, b5, b6, b7, b8, b9, b10, b11⟩ := hm
  dsimp only at *
  obtain ⟨q, hq⟩ : ∃ q, q = checkB { k := k0, f := f, t := t, term := term, ix := ix, lt := lt, cm := cm, es := es, rj := rj, hi := hi, cx := cx, si := si, st := st, sd := sd } := ⟨_, rfl⟩
  rw [← hq] at hiff ⊢
  obtain ⟨r, hr⟩ : ∃ r, r = riseB ix term 0 1 es := ⟨_, rfl⟩
  rw [← hr] at hiff
  have hlen : (es.length : Int) ≤ 1000000 := by omega
  have hsdl : (sd.length : Int) ≤ 1000000 := by omega
  obtain ⟨a, ha⟩ : ∃ a : Int, a = (if q = true then 0 else 2) := ⟨_, rfl⟩
  rw [← ha]
  have HA := Lib.hid ha
  clear ha
  have HQ := Lib.hid hiff
  have HR := Lib.hid hr
  have HC := Lib.hid hcells
  have HE := Lib.hid b9
  have HNO := Lib.hid (show ¬ q = true by intro hq; have hz := hiff.1 hq; omega)
  clear hr hq hiff hcells hv b9 b2 b3 b4 b5 b6 b7 b8 HQ HR HC HE
  unfold mgCells
  go_enter Try.func14, Try.ntmps14
  go_wp2_with fail
  go_ret
  exact ⟨ret_no HA.out HNO.out, (Below.refl _ w).alloc (Nat.le_refl _) _⟩
set_option maxRecDepth 100000 in
set_option maxHeartbeats 40000000 in
theorem refCheck_no13 (m : Mg) (v : Value) (w : World) (hm : m.fit) (hv : EntsAt w v m.es) (h0 : ¬ m.k < 1) (h1 : ¬ 7 < m.k) (h2 : ¬ m.f < 0) (h3 : ¬ 6 < m.f) (h4 : ¬ m.t < 0) (h5 : ¬ 6 < m.t) (h6 : ¬ m.f = m.t) (h7 : ¬ (m.term : Int) < 1) (h8 : ¬ 1099511627776 < (m.term : Int)) (h9 : ¬ 1099511627776 < (m.ix : Int)) (h10 : ¬ 1099511627776 < (m.lt : Int)) (h11 : ¬ 1099511627776 < (m.cm : Int)) (h12 : ¬ 1099511627776 < (m.hi : Int)) (h13 : 1099511627776 < (m.cx : Int)) :
    Calls Try.prog 14 #[.agg (mgCells m v)] w fun e w' => e = .returned (.int .i64 (if checkB m then 0 else 2)) ∧ Below w.heap.size w w' := by
  have hiff := checkB_iff m
  obtain ⟨k0, f, t, term, ix, lt, cm, es, rj, hi, cx, si, st, sd⟩ := m
  obtain ⟨A, cap, rfl, hcap, hcells⟩ := hv.form2
  obtain ⟨b1, b2, b3, b4, b5, b6, b7, b8, b9, b10, b11⟩ := hm
  dsimp only at *
  obtain ⟨q, hq⟩ : ∃ q, q = checkB { k := k0, f := f, t := t, term := term, ix := ix, lt := lt, cm := cm, es := es, rj := rj, hi := hi, cx := cx, si := si, st := st, sd := sd } := ⟨_, rfl⟩
  rw [← hq] at hiff ⊢
  obtain ⟨r, hr⟩ : ∃ r, r = riseB ix term 0 1 es := ⟨_, rfl⟩
  rw [← hr] at hiff
  have hlen : (es.length : Int) ≤ 1000000 := by omega
  have hsdl : (sd.length : Int) ≤ 1000000 := by omega
  obtain ⟨a, ha⟩ : ∃ a : Int, a = (if q = true then 0 else 2) := ⟨_, rfl⟩
  rw [← ha]
  have HA := Lib.hid ha
  clear ha
  have HQ := Lib.hid hiff
  have HR := Lib.hid hr
  have HC := Lib.hid hcells
  have HE := Lib.hid b9
  have HNO := Lib.hid (show ¬ q = true by intro hq; have hz := hiff.1 hq; omega)
  clear hr hq hiff hcells hv b9 b2 b3 b4 b5 b6 b7 b8 HQ HR HC HE
  unfold mgCells
  go_enter Try.func14, Try.ntmps14
  go_wp2_with fail
  go_ret
  exact ⟨ret_no HA.out HNO.out, (Below.refl _ w).alloc (Nat.le_refl _) _⟩
set_option maxRecDepth 100000 in
set_option maxHeartbeats 40000000 in
theorem refCheck_no14 (m : Mg) (v : Value) (w : World) (hm : m.fit) (hv : EntsAt w v m.es) (h0 : ¬ m.k < 1) (h1 : ¬ 7 < m.k) (h2 : ¬ m.f < 0) (h3 : ¬ 6 < m.f) (h4 : ¬ m.t < 0) (h5 : ¬ 6 < m.t) (h6 : ¬ m.f = m.t) (h7 : ¬ (m.term : Int) < 1) (h8 : ¬ 1099511627776 < (m.term : Int)) (h9 : ¬ 1099511627776 < (m.ix : Int)) (h10 : ¬ 1099511627776 < (m.lt : Int)) (h11 : ¬ 1099511627776 < (m.cm : Int)) (h12 : ¬ 1099511627776 < (m.hi : Int)) (h13 : ¬ 1099511627776 < (m.cx : Int)) (h14 : 64 < (m.es.length : Int)) :
    Calls Try.prog 14 #[.agg (mgCells m v)] w fun e w' => e = .returned (.int .i64 (if checkB m then 0 else 2)) ∧ Below w.heap.size w w' := by
  have hiff := checkB_iff m
  obtain ⟨k0, f, t, term, ix, lt, cm, es, rj, hi, cx, si, st, sd⟩ := m
  obtain ⟨A, cap, rfl, hcap, hcells⟩ := hv.form2
  obtain ⟨b1, b2, b3, b4, b5, b6, b7, b8, b9, b10, b11⟩ := hm
  dsimp only at *
  obtain ⟨q, hq⟩ : ∃ q, q = checkB { k := k0, f := f, t := t, term := term, ix := ix, lt := lt, cm := cm, es := es, rj := rj, hi := hi, cx := cx, si := si, st := st, sd := sd } := ⟨_, rfl⟩
  rw [← hq] at hiff ⊢
  obtain ⟨r, hr⟩ : ∃ r, r = riseB ix term 0 1 es := ⟨_, rfl⟩
  rw [← hr] at hiff
  have hlen : (es.length : Int) ≤ 1000000 := by omega
  have hsdl : (sd.length : Int) ≤ 1000000 := by omega
  obtain ⟨a, ha⟩ : ∃ a : Int, a = (if q = true then 0 else 2) := ⟨_, rfl⟩
  rw [← ha]
  have HA := Lib.hid ha
  clear ha
  have HQ := Lib.hid hiff
  have HR := Lib.hid hr
  have HC := Lib.hid hcells
  have HE := Lib.hid b9
  have HNO := Lib.hid (show ¬ q = true by intro hq; have hz := hiff.1 hq; omega)
  clear hr hq hiff hcells hv b9 b2 b3 b4 b5 b6 b7 b8 HQ HR HC HE
  unfold mgCells
  go_enter Try.func14, Try.ntmps14
  go_wp2_with fail
  go_ret
  exact ⟨ret_no HA.out HNO.out, (Below.refl _ w).alloc (Nat.le_refl _) _⟩
/-- the document's Check, of any message -/
theorem refCheck_any (m : Mg) (v : Value) (w : World) (hm : m.fit) (hv : EntsAt w v m.es) :
    Calls Try.prog 14 #[.agg (mgCells m v)] w fun e w' => e = .returned (.int .i64 (if checkB m then 0 else 2)) ∧ Below w.heap.size w w' := by
  by_cases h0 : m.k < 1
  · exact refCheck_no0 m v w hm hv h0
  by_cases h1 : 7 < m.k
  · exact refCheck_no1 m v w hm hv h0 h1
  by_cases h2 : m.f < 0
  · exact refCheck_no2 m v w hm hv h0 h1 h2
  by_cases h3 : 6 < m.f
  · exact refCheck_no3 m v w hm hv h0 h1 h2 h3
  by_cases h4 : m.t < 0
  · exact refCheck_no4 m v w hm hv h0 h1 h2 h3 h4
  by_cases h5 : 6 < m.t
  · exact refCheck_no5 m v w hm hv h0 h1 h2 h3 h4 h5
  by_cases h6 : m.f = m.t
  · exact refCheck_no6 m v w hm hv h0 h1 h2 h3 h4 h5 h6
  by_cases h7 : (m.term : Int) < 1
  · exact refCheck_no7 m v w hm hv h0 h1 h2 h3 h4 h5 h6 h7
  by_cases h8 : 1099511627776 < (m.term : Int)
  · exact refCheck_no8 m v w hm hv h0 h1 h2 h3 h4 h5 h6 h7 h8
  by_cases h9 : 1099511627776 < (m.ix : Int)
  · exact refCheck_no9 m v w hm hv h0 h1 h2 h3 h4 h5 h6 h7 h8 h9
  by_cases h10 : 1099511627776 < (m.lt : Int)
  · exact refCheck_no10 m v w hm hv h0 h1 h2 h3 h4 h5 h6 h7 h8 h9 h10
  by_cases h11 : 1099511627776 < (m.cm : Int)
  · exact refCheck_no11 m v w hm hv h0 h1 h2 h3 h4 h5 h6 h7 h8 h9 h10 h11
  by_cases h12 : 1099511627776 < (m.hi : Int)
  · exact refCheck_no12 m v w hm hv h0 h1 h2 h3 h4 h5 h6 h7 h8 h9 h10 h11 h12
  by_cases h13 : 1099511627776 < (m.cx : Int)
  · exact refCheck_no13 m v w hm hv h0 h1 h2 h3 h4 h5 h6 h7 h8 h9 h10 h11 h12 h13
  by_cases h14 : 64 < (m.es.length : Int)
  · exact refCheck_no14 m v w hm hv h0 h1 h2 h3 h4 h5 h6 h7 h8 h9 h10 h11 h12 h13 h14
  have hf : m.first := by unfold Mg.first; omega
  by_cases hk : m.k = 3
  · exact refCheck_yes3 m v w hm hv hf hk
  by_cases he : m.es.length = 0
  · exact refCheck_yes0 m v w hm hv hf hk he
  · exact refCheck_yes4 m v w hm hv hf hk he
end Go.Proofs.Ytdemkcnhcgiheaa
