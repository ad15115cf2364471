/- The walk of the document's Encode. Conditions: numbers are of 64 bits; data are short where the message may be. -/
import Derived.Test.YtdemkcnhcgiheaaVC
import Derived.Test.YtdemkcnhcgiheaaX
namespace Go.Proofs.Ytdemkcnhcgiheaa
open Go.RowKit
set_option maxRecDepth 100000 in
set_option maxHeartbeats 1600000 in
theorem refEncode_any (m : Mg) (v : Value) (w : World) (hm : m.fit) (hs : checkB m = true → m.small) (hv : EntsAt w v m.es) :
    Calls Try.prog 10 #[.agg (mgCells m v)] w fun e w' => e = .returned (.tuple #[.string (bs (encB m)), .int .i64 (encE m)]) ∧ Below w.heap.size w w' := by
  have HV := Lib.hid hv
  have HM := Lib.hid hm
  have HS := Lib.hid hs
  obtain ⟨q, hq⟩ : ∃ q, q = checkB m := ⟨_, rfl⟩
  have hB0 : Below w.heap.size w (w.alloc (.cells (mgCells m v) 27)) := (Below.refl _ w).alloc (Nat.le_refl _) _
  have HB0 := Lib.hid hB0
  have HQ := Lib.hid hq
  clear hv hm hs hB0 hq
  have hblk := Lib.hid (blk_new w (.cells (mgCells m v) 27))
  go_enter Try.func10, Try.ntmps10
  unfold mgCells
  go_wp2_with fail
  refine (refCheck_any m v (w.alloc (.cells (mgCells m v) 27)) HM.out (HV.out.below HB0.out (Nat.le_refl _))).mono ?_
  rintro e w1 ⟨rfl, hb1⟩
  have HB1 := Lib.hid (HB0.out.trans (hb1.mono HB0.out.size))
  have HBLK := Lib.hid (blk_below hb1 (blk_lt hblk.out) hblk.out)
  clear hb1
  rw [← HQ.out]
  cases q
  · go_wp2_with fail
    go_ret2
    refine ⟨?_, HB1.out⟩
    rw [encB, encE, if_neg (by rw [← HQ.out]; decide), if_neg (by rw [← HQ.out]; decide)]
    rfl
  · obtain ⟨c0, c1, c2, c3, c4, c5, c6, c7, c8, c9, c10, c11, c12, c13⟩ := mg_cells HBLK.out
    have hf := checkB_facts HQ.out.symm
    have hok := HM.out.ok (HS.out HQ.out.symm) hf.2.2.2
    have hlen := layB_length hok hf.1 hf.2.1 hf.2.2.1
    have HF := Lib.hid hf
    have HOK := Lib.hid hok
    have HLEN := Lib.hid hlen
    clear hf hok hlen
    go_wp2_with fail
    refine (refBytes_any m v w1 HOK.out HF.out.1 HF.out.2.1 HF.out.2.2.1 (HV.out.below HB1.out (Nat.le_refl _))).mono ?_
    rintro e w2 ⟨rfl, hb2⟩
    have HB2 := Lib.hid (HB1.out.trans (hb2.mono HB1.out.size))
    clear hb2 c0 c1 c2 c3 c4 c5 c6 c7 c8 c9 c10 c11 c12 c13
    go_wp2_with fail
    refine (refSeal_any (layB m) w2 (by have := HLEN.out; omega)).mono ?_
    rintro e w3 ⟨rfl, hb3⟩
    have HB3 := Lib.hid (HB2.out.trans (hb3.mono HB2.out.size))
    clear hb3
    go_wp2_with fail
    go_ret2
    refine ⟨?_, HB3.out⟩
    rw [encB, encE, if_pos HQ.out.symm, if_pos HQ.out.symm]
    rfl
end Go.Proofs.Ytdemkcnhcgiheaa
