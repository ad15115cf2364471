/- what the document's Check answers where one of its first conditions fails -/
import Derived.Test.YtdemkcnhcgiheaaVA
namespace Go.Proofs.Ytdemkcnhcgiheaa
open Go.RowKit
set_option maxRecDepth 100000 in
set_option maxHeartbeats 40000000 in
theorem refCheck_no0 (m : Mg) (v : Value) (w : World) (hm : m.fit) (hv : EntsAt w v m.es)  (h0 : m.k < 1) :
    Calls Try.prog 14 #[.agg (mgCells m v)] w fun e w' => e = .returned (.int .i64 (if checkB m then 0 else 2)) ∧ Below w.heap.size w w' := by
  have hiff := checkB_iff m
  obtain ⟨k0, f, t, term, ix, lt, cm, es, rj, hi, cx, si, st, sd⟩ := m
  obtain ⟨A, cap, rfl, hcap, hcells⟩ := hv.form2
  obtain ⟨b1, b2, b3, b4, b5, b6, b7, b8, b9, b10, b11⟩ := hm
  dsimp only at *
  obtain ⟨q, hq⟩ : ∃ q, q = checkB { k := k0, f := f, t := t, term := term, ix := ix, lt := lt, cm := cm, es := es, rj := rj, hi := hi, cx := cx, si := si, st := st, sd := sd } := ⟨_, rfl⟩
  rw [← hq] at hiff ⊢
  obtain ⟨r, hr⟩ : ∃ r, r = riseB ix term 0 1 es := ⟨_, rfl⟩
  rw [← hr] at hiff
  have hlen : (es.length : Int) ≤ 1000000 := by omega
  have hsdl : (sd.length : Int) ≤ 1000000 := by omega
  obtain ⟨a, ha⟩ : ∃ a : Int, a = (if q = true then 0 else 2) := ⟨_, rfl⟩
  rw [← ha]
  have HA := Lib.hid ha
  clear ha
  have HQ := Lib.hid hiff
  have HR := Lib.hid hr
  have HC := Lib.hid hcells
  have HE := Lib.hid b9
  have HNO := Lib.hid (show ¬ q = true by intro hq; have hz := hiff.1 hq; omega)
  clear hr hq hiff hcells hv b9 b2 b3 b4 b5 b6 b7 b8 HQ HR HC HE
  unfold mgCells
  go_enter Try.func14, Try.ntmps14
  go_wp2_with fail
  go_ret
  exact ⟨ret_no HA.out HNO.out, (Below.refl _ w).alloc (Nat.le_refl _) _⟩
set_option maxRecDepth 100000 in
set_option maxHeartbeats 40000000 in
theorem refCheck_no1 (m : Mg) (v : Value) (w : World) (hm : m.fit) (hv : EntsAt w v m.es) (h0 : ¬ m.k < 1) (h1 : 7 < m.k) :
    Calls Try.prog 14 #[.agg (mgCells m v)] w fun e w' => e = .returned (.int .i64 (if checkB m then 0 else 2)) ∧ Below w.heap.size w w' := by
  have hiff := checkB_iff m
  obtain ⟨k0, f, t, term, ix, lt, cm, es, rj, hi, cx, si, st, sd⟩ := m
  obtain ⟨A, cap, rfl, hcap, hcells⟩ := hv.form2
  obtain ⟨b1, b2, b3, b4, b5, b6, b7, b8, b9, b10, b11⟩ := hm
  dsimp only at *
  obtain ⟨q, hq⟩ : ∃ q, q = checkB { k := k0, f := f, t := t, term := term, ix := ix, lt := lt, cm := cm, es := es, rj := rj, hi := hi, cx := cx, si := si, st := st, sd := sd } := ⟨_, rfl⟩
  rw [← hq] at hiff ⊢
  obtain ⟨r, hr⟩ : ∃ r, r = riseB ix term 0 1 es := ⟨_, rfl⟩
  rw [← hr] at hiff
  have hlen : (es.length : Int) ≤ 1000000 := by omega
  have hsdl : (sd.length : Int) ≤ 1000000 := by omega
  obtain ⟨a, ha⟩ : ∃ a : Int, a = (if q = true then 0 else 2) := ⟨_, rfl⟩
  rw [← ha]
  have HA := Lib.hid ha
  clear ha
  have HQ := Lib.hid hiff
  have HR := Lib.hid hr
  have HC := Lib.hid hcells
  have HE := Lib.hid b9
  have HNO := Lib.hid (show ¬ q = true by intro hq; have hz := hiff.1 hq; omega)
  clear hr hq hiff hcells hv b9 b2 b3 b4 b5 b6 b7 b8 HQ HR HC HE
  unfold mgCells
  go_enter Try.func14, Try.ntmps14
  go_wp2_with fail
  go_ret
  exact ⟨ret_no HA.out HNO.out, (Below.refl _ w).alloc (Nat.le_refl _) _⟩
set_option maxRecDepth 100000 in
set_option maxHeartbeats 40000000 in
theorem refCheck_no2 (m : Mg) (v : Value) (w : World) (hm : m.fit) (hv : EntsAt w v m.es) (h0 : ¬ m.k < 1) (h1 : ¬ 7 < m.k) (h2 : m.f < 0) :
    Calls Try.prog 14 #[.agg (mgCells m v)] w fun e w' => e = .returned (.int .i64 (if checkB m then 0 else 2)) ∧ Below w.heap.size w w' := by
  have hiff := checkB_iff m
  obtain ⟨k0, f, t, term, ix, lt, cm, es, rj, hi, cx, si, st, sd⟩ := m
  obtain ⟨A, cap, rfl, hcap, hcells⟩ := hv.form2
  obtain ⟨b1, b2, b3, b4, b5, b6, b7, b8, b9, b10, b11⟩ := hm
  dsimp only at *
  obtain ⟨q, hq⟩ : ∃ q, q = checkB { k := k0, f := f, t := t, term := term, ix := ix, lt := lt, cm := cm, es := es, rj := rj, hi := hi, cx := cx, si := si, st := st, sd := sd } := ⟨_, rfl⟩
  rw [← hq] at hiff ⊢
  obtain ⟨r, hr⟩ : ∃ r, r = riseB ix term 0 1 es := ⟨_, rfl⟩
  rw [← hr] at hiff
  have hlen : (es.length : Int) ≤ 1000000 := by omega
  have hsdl : (sd.length : Int) ≤ 1000000 := by omega
  obtain ⟨a, ha⟩ : ∃ a : Int, a = (if q = true then 0 else 2) := ⟨_, rfl⟩
  rw [← ha]
  have HA := Lib.hid ha
  clear ha
  have HQ := Lib.hid hiff
  have HR := Lib.hid hr
  have HC := Lib.hid hcells
  have HE := Lib.hid b9
  have HNO := Lib.hid (show ¬ q = true by intro hq; have hz := hiff.1 hq; omega)
  clear hr hq hiff hcells hv b9 b2 b3 b4 b5 b6 b7 b8 HQ HR HC HE
  unfold mgCells
  go_enter Try.func14, Try.ntmps14
  go_wp2_with fail
  go_ret
  exact ⟨ret_no HA.out HNO.out, (Below.refl _ w).alloc (Nat.le_refl _) _⟩
set_option maxRecDepth 100000 in
set_option maxHeartbeats 40000000 in
theorem refCheck_no3 (m : Mg) (v : Value) (w : World) (hm : m.fit) (hv : EntsAt w v m.es) (h0 : ¬ m.k < 1) (h1 : ¬ 7 < m.k) (h2 : ¬ m.f < 0) (h3 : 6 < m.f) :
    Calls Try.prog 14 #[.agg (mgCells m v)] w fun e w' => e = .returned (.int .i64 (if checkB m then 0 else 2)) ∧ Below w.heap.size w w' := by
  have hiff := checkB_iff m
  obtain ⟨k0, f, t, term, ix, lt, cm, es, rj, hi, cx, si, st, sd⟩ := m
  obtain ⟨A, cap, rfl, hcap, hcells⟩ := hv.form2
  obtain ⟨b1, b2, b3, b4, b5, b6, b7, b8, b9, b10, b11⟩ := hm
  dsimp only at *
  obtain ⟨q, hq⟩ : ∃ q, q = checkB { k := k0, f := f, t := t, term := term, ix := ix, lt := lt, cm := cm, es := es, rj := rj, hi := hi, cx := cx, si := si, st := st, sd := sd } := ⟨_, rfl⟩
  rw [← hq] at hiff ⊢
  obtain ⟨r, hr⟩ : ∃ r, r = riseB ix term 0 1 es := ⟨_, rfl⟩
  rw [← hr] at hiff
  have hlen : (es.length : Int) ≤ 1000000 := by omega
  have hsdl : (sd.length : Int) ≤ 1000000 := by omega
  obtain ⟨a, ha⟩ : ∃ a : Int, a = (if q = true then 0 else 2) := ⟨_, rfl⟩
  rw [← ha]
  have HA := Lib.hid ha
  clear ha
  have HQ := Lib.hid hiff
  have HR := Lib.hid hr
  have HC := Lib.hid hcells
  have HE := Lib.hid b9
  have HNO := Lib.hid (show ¬ q = true by intro hq; have hz := hiff.1 hq; omega)
  clear hr hq hiff hcells hv b9 b2 b3 b4 b5 b6 b7 b8 HQ HR HC HE
  unfold mgCells
  go_enter Try.func14, Try.ntmps14
  go_wp2_with fail
  go_ret
  exact ⟨ret_no HA.out HNO.out, (Below.refl _ w).alloc (Nat.le_refl _) _⟩
set_option maxRecDepth 100000 in
set_option maxHeartbeats 40000000 in
theorem refCheck_no4 (m : Mg) (v : Value) (w : World) (hm : m.fit) (hv : EntsAt w v m.es) (h0 : ¬ m.k < 1) (h1 : ¬ 7 < m.k) (h2 : ¬ m.f < 0) (h3 : ¬ 6 < m.f) (h4 : m.t < 0) :
    Calls Try.prog 14 #[.agg (mgCells m v)] w fun e w' => e = .returned (.int .i64 (if checkB m then 0 else 2)) ∧ Below w.heap.size w w' := by
  have hiff := checkB_iff m
  obtain ⟨k0, f, t, term, ix, lt, cm, es, rj, hi, cx, si, st, sd⟩ := m
  obtain ⟨A, cap, rfl, hcap, hcells⟩ := hv.form2
  obtain ⟨b1, b2, b3, b4, b5, b6, b7, b8, b9, b10, b11⟩ := hm
  dsimp only at *
  obtain ⟨q, hq⟩ : ∃ q, q = checkB { k := k0, f := f, t := t, term := term, ix := ix, lt := lt, cm := cm, es := es, rj := rj, hi := hi, cx := cx, si := si, st := st, sd := sd } := ⟨_, rfl⟩
  rw [← hq] at hiff ⊢
  obtain ⟨r, hr⟩ : ∃ r, r = riseB ix term 0 1 es := ⟨_, rfl⟩
  rw [← hr] at hiff
  have hlen : (es.length : Int) ≤ 1000000 := by omega
  have hsdl : (sd.length : Int) ≤ 1000000 := by omega
  obtain ⟨a, ha⟩ : ∃ a : Int, a = (if q = true then 0 else 2) := ⟨_, rfl⟩
  rw [← ha]
  have HA := Lib.hid ha
  clear ha
  have HQ := Lib.hid hiff
  have HR := Lib.hid hr
  have HC := Lib.hid hcells
  have HE := Lib.hid b9
  have HNO := Lib.hid (show ¬ q = true by intro hq; have hz := hiff.1 hq; omega)
  clear hr hq hiff hcells hv b9 b2 b3 b4 b5 b6 b7 b8 HQ HR HC HE
  unfold mgCells
  go_enter Try.func14, Try.ntmps14
  go_wp2_with fail
  go_ret
  exact ⟨ret_no HA.out HNO.out, (Below.refl _ w).alloc (Nat.le_refl _) _⟩
set_option maxRecDepth 100000 in
set_option maxHeartbeats 40000000 in
theorem refCheck_no5 (m : Mg) (v : Value) (w : World) (hm : m.fit) (hv : EntsAt w v m.es) (h0 : ¬ m.k < 1) (h1 : ¬ 7 < m.k) (h2 : ¬ m.f < 0) (h3 : ¬ 6 < m.f) (h4 : ¬ m.t < 0) (h5 : 6 < m.t) :
    Calls Try.prog 14 #[.agg (mgCells m v)] w fun e w' => e = .returned (.int .i64 (if checkB m then 0 else 2)) ∧ Below w.heap.size w w' := by
  have hiff := checkB_iff m
  obtain ⟨k0, f, t, term, ix, lt, cm, es, rj, hi, cx, si, st, sd⟩ := m
  obtain ⟨A, cap, rfl, hcap, hcells⟩ := hv.form2
  obtain ⟨b1, b2, b3, b4, b5, b6, b7, b8, b9, b10, b11⟩ := hm
  dsimp only at *
  obtain ⟨q, hq⟩ : ∃ q, q = checkB { k := k0, f := f, t := t, term := term, ix := ix, lt := lt, cm := cm, es := es, rj := rj, hi := hi, cx := cx, si := si, st := st, sd := sd } := ⟨_, rfl⟩
  rw [← hq] at hiff ⊢
  obtain ⟨r, hr⟩ : ∃ r, r = riseB ix term 0 1 es := ⟨_, rfl⟩
  rw [← hr] at hiff
  have hlen : (es.length : Int) ≤ 1000000 := by omega
  have hsdl : (sd.length : Int) ≤ 1000000 := by omega
  obtain ⟨a, ha⟩ : ∃ a : Int, a = (if q = true then 0 else 2) := ⟨_, rfl⟩
  rw [← ha]
  have HA := Lib.hid ha
  clear ha
  have HQ := Lib.hid hiff
  have HR := Lib.hid hr
  have HC := Lib.hid hcells
  have HE := Lib.hid b9
  have HNO := Lib.hid (show ¬ q = true by intro hq; have hz := hiff.1 hq; omega)
  clear hr hq hiff hcells hv b9 b2 b3 b4 b5 b6 b7 b8 HQ HR HC HE
  unfold mgCells
  go_enter Try.func14, Try.ntmps14
  go_wp2_with fail
  go_ret
  exact ⟨ret_no HA.out HNO.out, (Below.refl _ w).alloc (Nat.le_refl _) _⟩
set_option maxRecDepth 100000 in
set_option maxHeartbeats 40000000 in
theorem refCheck_no6 (m : Mg) (v : Value) (w : World) (hm : m.fit) (hv : EntsAt w v m.es) (h0 : ¬ m.k < 1) (h1 : ¬ 7 < m.k) (h2 : ¬ m.f < 0) (h3 : ¬ 6 < m.f) (h4 : ¬ m.t < 0) (h5 : ¬ 6 < m.t) (h6 : m.f = m.t) :
    Calls Try.prog 14 #[.agg (mgCells m v)] w fun e w' => e = .returned (.int .i64 (if checkB m then 0 else 2)) ∧ Below w.heap.size w w' := by
  have hiff := checkB_iff m
  obtain ⟨k0, f, t, term, ix, lt, cm, es, rj, hi, cx, si, st, sd⟩ := m
  obtain ⟨A, cap, rfl, hcap, hcells⟩ := hv.form2
  obtain ⟨b1, b2, b3, b4, b5, b6, b7, b8, b9, b10, b11⟩ := hm
  dsimp only at *
  obtain ⟨q, hq⟩ : ∃ q, q = checkB { k := k0, f := f, t := t, term := term, ix := ix, lt := lt, cm := cm, es := es, rj := rj, hi := hi, cx := cx, si := si, st := st, sd := sd } := ⟨_, rfl⟩
  rw [← hq] at hiff ⊢
  obtain ⟨r, hr⟩ : ∃ r, r = riseB ix term 0 1 es := ⟨_, rfl⟩
  rw [← hr] at hiff
  have hlen : (es.length : Int) ≤ 1000000 := by omega
  have hsdl : (sd.length : Int) ≤ 1000000 := by omega
  obtain ⟨a, ha⟩ : ∃ a : Int, a = (if q = true then 0 else 2) := ⟨_, rfl⟩
  rw [← ha]
  have HA := Lib.hid ha
  clear ha
  have HQ := Lib.hid hiff
  have HR := Lib.hid hr
  have HC := Lib.hid hcells
  have HE := Lib.hid b9
  have HNO := Lib.hid (show ¬ q = true by intro hq; have hz := hiff.1 hq; omega)
  clear hr hq hiff hcells hv b9 b2 b3 b4 b5 b6 b7 b8 HQ HR HC HE
  unfold mgCells
  go_enter Try.func14, Try.ntmps14
  go_wp2_with fail
  go_ret
  exact ⟨ret_no HA.out HNO.out, (Below.refl _ w).alloc (Nat.le_refl _) _⟩
set_option maxRecDepth 100000 in
set_option maxHeartbeats 40000000 in
theorem refCheck_no7 (m : Mg) (v : Value) (w : World) (hm : m.fit) (hv : EntsAt w v m.es) (h0 : ¬ m.k < 1) (h1 : ¬ 7 < m.k) (h2 : ¬ m.f < 0) (h3 : ¬ 6 < m.f) (h4 : ¬ m.t < 0) (h5 : ¬ 6 < m.t) (h6 : ¬ m.f = m.t) (h7 : (m.term : Int) < 1) :
    Calls Try.prog 14 #[.agg (mgCells m v)] w fun e w' => e = .returned (.int .i64 (if checkB m then 0 else 2)) ∧ Below w.heap.size w w' := by
  have hiff := checkB_iff m
  obtain ⟨k0, f, t, term, ix, lt, cm, es, rj, hi, cx, si, st, sd⟩ := m
  obtain ⟨A, cap, rfl, hcap, hcells⟩ := hv.form2
  obtain ⟨b1, b2, b3, b4, b5, b6, b7, b8, b9, b10, b11⟩ := hm
  dsimp only at *
  obtain ⟨q, hq⟩ : ∃ q, q = checkB { k := k0, f := f, t := t, term := term, ix := ix, lt := lt, cm := cm, es := es, rj := rj, hi := hi, cx := cx, si := si, st := st, sd := sd } := ⟨_, rfl⟩
  rw [← hq] at hiff ⊢
  obtain ⟨r, hr⟩ : ∃ r, r = riseB ix term 0 1 es := ⟨_, rfl⟩
  rw [← hr] at hiff
  have hlen : (es.length : Int) ≤ 1000000 := by omega
  have hsdl : (sd.length : Int) ≤ 1000000 := by omega
  obtain ⟨a, ha⟩ : ∃ a : Int, a = (if q = true then 0 else 2) := ⟨_, rfl⟩
  rw [← ha]
  have HA := Lib.hid ha
  clear ha
  have HQ := Lib.hid hiff
  have HR := Lib.hid hr
  have HC := Lib.hid hcells
  have HE := Lib.hid b9
  have HNO := Lib.hid (show ¬ q = true by intro hq; have hz := hiff.1 hq; omega)
  clear hr hq hiff hcells hv b9 b2 b3 b4 b5 b6 b7 b8 HQ HR HC HE
  unfold mgCells
  go_enter Try.func14, Try.ntmps14
  go_wp2_with fail
  go_ret
  exact ⟨ret_no HA.out HNO.out, (Below.refl _ w).alloc (Nat.le_refl _) _⟩
end Go.Proofs.Ytdemkcnhcgiheaa
