/- The walk of Check. -/
import Derived.Test.YtdemkcnhcgiheaaS
namespace Go.Proofs.Ytdemkcnhcgiheaa
open Go.RowKit
set_option maxRecDepth 100000 in
set_option maxHeartbeats 1600000 in
theorem contains_any (m : Mg) (v : Value) (g b : Nat) (T : TypeId) (w : World) (hm : m.fit) (h : Stands m v g w w) (hb : w.heap[b]? = some (.cells (fourAsk g) T (0, 0))) :
    Calls Try.prog 59 #[.slice (some ⟨b, 0, none⟩) 4 4, .func (.func 60) #[] #[]] w fun e w' => e = .returned (.bool (!checkB m)) ∧ Below w.heap.size w w' := by
  have HI := Lib.hid (index_any m v g b T w hm h hb)
  clear hb h hm
  go_enter Try.func59, Try.ntmps59
  go_wp2_with fail
  refine HI.out.mono ?_
  rintro e w1 ⟨⟨i, rfl, h1, h2, h3⟩, hb1⟩
  have HB1 := Lib.hid hb1
  have H3 := Lib.hid h3
  clear hb1 h3
  go_wp2_with fail
  go_ret
  refine ⟨ret_bool ?_, HB1.out⟩
  rw [← H3.out]
  first | done | rfl | simp
set_option maxRecDepth 100000 in
set_option maxHeartbeats 1600000 in
theorem all_any (m : Mg) (v : Value) (g b : Nat) (T : TypeId) (w : World) (hm : m.fit) (h : Stands m v g w w) (hb : w.heap[b]? = some (.cells (fourAsk g) T (0, 0))) :
    Calls Try.prog 37 #[.slice (some ⟨b, 0, none⟩) 4 4] w fun e w' => e = .returned (.bool (checkB m)) ∧ Below w.heap.size w w' := by
  have HI := Lib.hid (contains_any m v g b T w hm h hb)
  clear hb h hm
  go_enter Try.func37, Try.ntmps37
  go_wp2_with fail
  refine HI.out.mono ?_
  rintro e w1 ⟨rfl, hb1⟩
  have HB1 := Lib.hid hb1
  clear hb1
  go_wp2_with fail
  go_ret
  refine ⟨ret_bool ?_, HB1.out⟩
  first | done | rfl | simp
set_option maxRecDepth 100000 in
set_option maxHeartbeats 1600000 in
theorem check_any (m : Mg) (v : Value) (w : World) (hm : m.fit) (hv : EntsAt w v m.es) :
    Calls Try.prog 13 #[.agg (mgCells m v)] w fun e w' => e = .returned (.int .i64 (if checkB m then 0 else 2)) ∧ Below w.heap.size w w' := by
  have HV := Lib.hid hv
  have HM := Lib.hid hm
  obtain ⟨q, hq⟩ : ∃ q, q = checkB m := ⟨_, rfl⟩
  rw [← hq]
  have HQ := Lib.hid hq
  clear hv hm hq
  go_enter Try.func13, Try.ntmps13
  unfold mgCells
  go_wp2_with fail
  have hw := blk_new (w.alloc (.cells (mgCells m v) 27)) (.cells (fourAsk w.heap.size) 36)
  rw [World.size_alloc] at hw
  have hbw : Below w.heap.size w ((w.alloc (.cells (mgCells m v) 27)).alloc (.cells (fourAsk w.heap.size) 36)) := ((Below.refl _ w).alloc (Nat.le_refl _) _).alloc (by simp) _
  have hs : Stands m v w.heap.size ((w.alloc (.cells (mgCells m v) 27)).alloc (.cells (fourAsk w.heap.size) 36)) ((w.alloc (.cells (mgCells m v) 27)).alloc (.cells (fourAsk w.heap.size) 36)) :=
    ⟨blk_alloc (blk_new w _) _, HV.out.below hbw (Nat.le_refl _), Below.refl _ _⟩
  refine (all_any m v w.heap.size (w.heap.size + 1) 36 _ HM.out hs hw).mono ?_
  rintro e w1 ⟨rfl, hb1⟩
  have HB := Lib.hid (hbw.trans (hb1.mono hbw.size))
  rw [← HQ.out]
  clear hw hbw hs hb1
  cases q
  · go_wp2_with fail
    go_ret
    exact ⟨rfl, HB.out⟩
  · go_wp2_with fail
    go_ret
    exact ⟨rfl, HB.out⟩
end Go.Proofs.Ytdemkcnhcgiheaa
