/- The walk of Encode. -/
import Derived.Test.YtdemkcnhcgiheaaU
import Derived.Test.YtdemkcnhcgiheaaI
namespace Go.Proofs.Ytdemkcnhcgiheaa
open Go.RowKit
/-- a message's data are short -/
structure Mg.small (m : Mg) : Prop where
  es : ∀ e ∈ m.es, e.d.length ≤ 3000
  sd : m.sd.length ≤ 3000
theorem Mg.fit.ok {m : Mg} (h : m.fit) (h2 : m.small) (hl : m.es.length ≤ 70) : m.ok :=
  ⟨h.term, h.ix, h.lt, h.cm, h.hi, h.cx, h.si, h.st, fun e he => ⟨(h.es e he).t, (h.es e he).i, h2.es e he⟩, hl, h2.sd⟩
theorem checkB_facts {m : Mg} (h : checkB m = true) : (0 ≤ m.k ∧ m.k ≤ 7) ∧ (0 ≤ m.f ∧ m.f ≤ 6) ∧ (0 ≤ m.t ∧ m.t ≤ 6) ∧ m.es.length ≤ 70 := by
  simp only [checkB, chk1, chk2, chk3, Bool.and_eq_true, decide_eq_true_eq] at h
  omega
theorem layB_length {m : Mg} (hm : m.ok) (hk : 0 ≤ m.k ∧ m.k ≤ 7) (hf : 0 ≤ m.f ∧ m.f ≤ 6) (ht : 0 ≤ m.t ∧ m.t ≤ 6) : (layB m).length ≤ 400000 := by
  have h8 : ∀ n ∈ [m.k.toNat, m.f.toNat, m.t.toNat, m.term, m.ix, m.lt, m.cm, m.es.length], n < 18446744073709551616 := by
    have := hm.term; have := hm.ix; have := hm.lt; have := hm.cm; have := hm.len
    intro n hn
    simp at hn
    omega
  have h5 : ∀ n ∈ [m.rj.toNat, m.hi, m.cx, m.si, m.st], n < 18446744073709551616 := by
    have := hm.hi; have := hm.cx; have := hm.si; have := hm.st
    have : m.rj.toNat ≤ 1 := by cases m.rj <;> decide
    intro n hn
    simp at hn
    omega
  have l8 := numsB_length _ h8
  have l5 := numsB_length _ h5
  have le := entsB_length m.es hm.es
  have hl := hm.len
  have hs := hm.sd
  have lt : (text m.sd).length ≤ 9 + m.sd.length := by
    have := num_length_le (n := m.sd.length) (by omega)
    simp only [text, List.length_append]
    omega
  simp only [List.length_cons, List.length_nil] at l8 l5
  simp only [layB, List.length_append]
  omega
/-- a message's bytes, sealed; the error -/
def encB (m : Mg) : Bs := if checkB m then seal_ (layB m) else []
def encE (m : Mg) : Int := if checkB m then 0 else 2
set_option maxRecDepth 100000 in
set_option maxHeartbeats 1600000 in
theorem encode_any (m : Mg) (v : Value) (w : World) (hm : m.fit) (hs : checkB m = true → m.small) (hv : EntsAt w v m.es) :
    Calls Try.prog 9 #[.agg (mgCells m v)] w fun e w' => e = .returned (.tuple #[.string (bs (encB m)), .int .i64 (encE m)]) ∧ Below w.heap.size w w' := by
  have HV := Lib.hid hv
  have HM := Lib.hid hm
  have HS := Lib.hid hs
  obtain ⟨q, hq⟩ : ∃ q, q = checkB m := ⟨_, rfl⟩
  have hB0 : Below w.heap.size w (w.alloc (.cells (mgCells m v) 27)) := (Below.refl _ w).alloc (Nat.le_refl _) _
  have HB0 := Lib.hid hB0
  have HQ := Lib.hid hq
  clear hv hm hs hB0 hq
  have hblk := Lib.hid (blk_new w (.cells (mgCells m v) 27))
  go_enter Try.func9, Try.ntmps9
  unfold mgCells
  go_wp2_with fail
  refine (check_any m v (w.alloc (.cells (mgCells m v) 27)) HM.out (HV.out.below HB0.out (Nat.le_refl _))).mono ?_
  rintro e w1 ⟨rfl, hb1⟩
  have HB1 := Lib.hid (HB0.out.trans (hb1.mono HB0.out.size))
  have HBLK := Lib.hid (blk_below hb1 (blk_lt hblk.out) hblk.out)
  clear hb1
  rw [← HQ.out]
  cases q
  · go_wp2_with fail
    go_ret2
    refine ⟨?_, HB1.out⟩
    rw [encB, encE, if_neg (by rw [← HQ.out]; decide), if_neg (by rw [← HQ.out]; decide)]
    rfl
  · obtain ⟨c0, c1, c2, c3, c4, c5, c6, c7, c8, c9, c10, c11, c12, c13⟩ := mg_cells HBLK.out
    have hf := checkB_facts HQ.out.symm
    have hok := HM.out.ok (HS.out HQ.out.symm) hf.2.2.2
    have hlen := layB_length hok hf.1 hf.2.1 hf.2.2.1
    have HF := Lib.hid hf
    have HOK := Lib.hid hok
    have HLEN := Lib.hid hlen
    clear hf hok hlen
    go_wp2_with fail
    refine (lay_any m v w1 HOK.out HF.out.1 HF.out.2.1 HF.out.2.2.1 (HV.out.below HB1.out (Nat.le_refl _))).mono ?_
    rintro e w2 ⟨rfl, hb2⟩
    have HB2 := Lib.hid (HB1.out.trans (hb2.mono HB1.out.size))
    clear hb2 c0 c1 c2 c3 c4 c5 c6 c7 c8 c9 c10 c11 c12 c13
    go_wp2_with fail
    refine (seal_any (layB m) w2 (by have := HLEN.out; omega)).mono ?_
    rintro e w3 ⟨rfl, hb3⟩
    have HB3 := Lib.hid (HB2.out.trans (hb3.mono HB2.out.size))
    clear hb3
    go_wp2_with fail
    go_ret2
    refine ⟨?_, HB3.out⟩
    rw [encB, encE, if_pos HQ.out.symm, if_pos HQ.out.symm]
    rfl
end Go.Proofs.Ytdemkcnhcgiheaa
