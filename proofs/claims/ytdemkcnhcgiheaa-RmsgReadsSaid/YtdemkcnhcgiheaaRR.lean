/- The walk of RmsgReads. No condition. -/
import Derived.Test.YtdemkcnhcgiheaaSA
import Derived.Test.YtdemkcnhcgiheaaRC
namespace Go.Proofs.Ytdemkcnhcgiheaa
open Go.RowKit
theorem dec_len (s : Bs) : (decB s).1.es.length ≤ 99 := by
  unfold decB
  split
  · exact Nat.zero_le _
  · split
    · exact parse_len _
    · exact Nat.zero_le _
set_option maxRecDepth 100000 in
set_option maxHeartbeats 4000000 in
theorem reads_any (l : Bs) (b : Bool) (w : World) :
    Calls Try.prog 4 #[.string (bs l), .bool b] w fun e w' => e = .returned (.bool true) ∧ Below w.heap.size w w' := by
  obtain ⟨q, hq⟩ : ∃ q : Nat, q = min l.length 3000 := ⟨_, rfl⟩
  have hmin : ∀ W, (Builtin.min_ #[3, 3] 3 #[.int .i64 (l.length : Nat), .int .i64 3000]).run Try.prog W = .ok (.int .i64 (q : Nat)) W := by
    intro W
    have e : (if (3000 : Int) < (l.length : Nat) then (3000 : Int) else (l.length : Nat)) = (q : Int) := by split <;> omega
    simp [Builtin.min_, Builtin.min2, e]
  have hq1 : q ≤ l.length := by omega
  have hq2 : q ≤ 3000 := by omega
  clear hq
  go_enter Try.func4, Try.ntmps4
  go_wp2_with fail
  obtain ⟨T, hT⟩ : ∃ T, T = l.take q := ⟨_, rfl⟩
  have hTl : T.length ≤ 3000 := by rw [hT, List.length_take]; omega
  rw [← hT]
  clear hmin hq1 hq2 hT
  obtain ⟨E, hE⟩ : ∃ E, E = getE T := ⟨_, rfl⟩
  have hV : getV T = .tuple #[.agg #[.int .u64 (E.1.t : Int), .int .u64 (E.1.i : Int), .string (bs E.1.d)], .int .i64 E.2] := by rw [hE]; rfl
  have HV := Lib.hid hV
  clear hV hE
  refine (getEntry_any T w (by omega)).mono ?_
  rintro e w1 ⟨rfl, hb1⟩
  rw [HV.out]
  have B1 := Lib.hid hb1
  clear hb1
  go_wp2_with fail
  refine (refGetEntry_any T _ (by omega)).mono ?_
  rintro e w2 ⟨rfl, hb2⟩
  rw [HV.out]
  have hm : w2.heap[w1.heap.size]? = some (.cells #[.int .u64 (E.1.t : Int), .int .u64 (E.1.i : Int), .string (bs E.1.d)] 34 (0, 0)) := blk_below hb2 (by rw [World.size_alloc]; omega) (blk_new w1 _)
  have B2 := Lib.hid ((B1.out.alloc B1.out.size _).trans (hb2.mono (by rw [World.size_alloc]; have := B1.out.size; omega)))
  have c0 : w2.cell? ⟨w1.heap.size, 0, none⟩ = some (.int .u64 (E.1.t : Int)) := blk_cell hm 0
  have c1 : w2.cell? ⟨w1.heap.size, 1, none⟩ = some (.int .u64 (E.1.i : Int)) := blk_cell hm 1
  have c2 : w2.cell? ⟨w1.heap.size, 2, none⟩ = some (.string (bs E.1.d)) := blk_cell hm 2
  have hlt := blk_lt hm
  clear hm hb2
  obtain ⟨g, hg⟩ : ∃ g, g = w1.heap.size := ⟨_, rfl⟩
  rw [← hg] at c0 c1 c2 hlt ⊢
  clear hg B1 w1
  cases b
  · go_wp2_with fail
    refine (decode_any T _ (fine_short (by omega))).mono ?_
    rintro e w4 ⟨v, rfl, hv, hb4⟩
    obtain ⟨m, hm⟩ : ∃ m, m = decB T := ⟨_, rfl⟩
    have hlen : m.1.es.length ≤ 100000 := by rw [hm]; have := dec_len T; omega
    rw [← hm] at hv ⊢
    have HM := Lib.hid hm
    have HLEN := Lib.hid hlen
    obtain ⟨A, cap, rfl, -⟩ := hv.form2
    have B4 := Lib.hid ((B2.out.alloc B2.out.size _).trans (hb4.mono (by rw [World.size_alloc]; have := B2.out.size; omega)))
    have HV := Lib.hid hv
    clear hm hv hb4 hlen
    unfold mgCells
    go_wp2_with fail
    refine (refDecode_any T _ (fine_short (by omega))).mono ?_
    rintro e w5 ⟨v2, rfl, hv2, hb5⟩
    rw [← HM.out] at hv2 ⊢
    obtain ⟨A2, cap2, rfl, -⟩ := hv2.form2
    have hm5 : w5.heap[w4.heap.size]? = some (.cells (mgCells m.1 (.slice A m.1.es.length cap)) 27 (0, 0)) := blk_below hb5 (by rw [World.size_alloc]; omega) (blk_new w4 _)
    have B5 := Lib.hid ((B4.out.alloc B4.out.size _).trans (hb5.mono (by rw [World.size_alloc]; have := B4.out.size; omega)))
    have V5 := Lib.hid ((HV.out.below ((Below.refl _ w4).alloc (Nat.le_refl _) _) (Nat.le_refl _)).below hb5 (Nat.le_refl _))
    have V6 := Lib.hid hv2
    have M5 := Lib.hid hm5
    have hglt := blk_lt hm5
    obtain ⟨g, hg⟩ : ∃ g, g = w4.heap.size := ⟨_, rfl⟩
    rw [← hg] at M5 hglt ⊢
    clear hg hb5 hv2 hm5 B4 HV
    obtain ⟨c0, c1, c2, c3, c4, c5, c6, c7, c8, c9, c10, c11, c12, c13⟩ := mg_cells M5.out
    unfold mgCells
    go_wp2_with fail
    have hal := (Below.refl w5.heap.size w5).alloc (Nat.le_refl _) (.cells (mgCells m.1 (.slice A2 m.1.es.length cap2)) 27 (0, 0))
    have V5b := Lib.hid (V5.out.below hal (Nat.le_refl _))
    have V6b := Lib.hid (V6.out.below hal (Nat.le_refl _))
    have B5b := Lib.hid (B5.out.trans (hal.mono B5.out.size))
    clear hal V5 V6 B5 M5 c0 c1 c2 c3 c4 c5 c6 c7 c8 c9 c10 c11 c12 c13
    refine (same_any m.1 (.slice A m.1.es.length cap) (.slice A2 m.1.es.length cap2) _ HLEN.out V5b.out V6b.out).mono ?_
    rintro e w6 ⟨rfl, hb6⟩
    have B6 := Lib.hid (B5b.out.trans (hb6.mono B5b.out.size))
    clear hb6
    go_wp2_with fail
    refine (works_any w6).mono ?_
    rintro e w7 ⟨rfl, hb7⟩
    have B7 := Lib.hid (B6.out.trans (hb7.mono B6.out.size))
    clear hb7
    go_wp2_with fail
    go_ret
    exact ⟨rfl, B7.out⟩
  · go_wp2_with fail
    refine (sealed_any T _ (by omega)).mono ?_
    rintro e w3 ⟨rfl, hb3⟩
    have B3 := Lib.hid ((B2.out.alloc B2.out.size _).trans (hb3.mono (by rw [World.size_alloc]; have := B2.out.size; omega)))
    clear hb3
    have hSl : (seal_ T).length ≤ 3004 := by rw [seal_length]; omega
    obtain ⟨S, hS⟩ : ∃ S, S = seal_ T := ⟨_, rfl⟩
    rw [← hS] at hSl ⊢
    clear hS
    go_wp2_with fail
    refine (decode_any S w3 (fine_short hSl)).mono ?_
    rintro e w4 ⟨v, rfl, hv, hb4⟩
    obtain ⟨m, hm⟩ : ∃ m, m = decB S := ⟨_, rfl⟩
    have hlen : m.1.es.length ≤ 100000 := by rw [hm]; have := dec_len S; omega
    rw [← hm] at hv ⊢
    have HM := Lib.hid hm
    have HLEN := Lib.hid hlen
    obtain ⟨A, cap, rfl, -⟩ := hv.form2
    have B4 := Lib.hid ((B3.out).trans (hb4.mono (B3.out.size)))
    have HV := Lib.hid hv
    clear hm hv hb4 hlen
    unfold mgCells
    go_wp2_with fail
    refine (refDecode_any S _ (fine_short hSl)).mono ?_
    rintro e w5 ⟨v2, rfl, hv2, hb5⟩
    rw [← HM.out] at hv2 ⊢
    obtain ⟨A2, cap2, rfl, -⟩ := hv2.form2
    have hm5 : w5.heap[w4.heap.size]? = some (.cells (mgCells m.1 (.slice A m.1.es.length cap)) 27 (0, 0)) := blk_below hb5 (by rw [World.size_alloc]; omega) (blk_new w4 _)
    have B5 := Lib.hid ((B4.out.alloc B4.out.size _).trans (hb5.mono (by rw [World.size_alloc]; have := B4.out.size; omega)))
    have V5 := Lib.hid ((HV.out.below ((Below.refl _ w4).alloc (Nat.le_refl _) _) (Nat.le_refl _)).below hb5 (Nat.le_refl _))
    have V6 := Lib.hid hv2
    have M5 := Lib.hid hm5
    have hglt := blk_lt hm5
    obtain ⟨g, hg⟩ : ∃ g, g = w4.heap.size := ⟨_, rfl⟩
    rw [← hg] at M5 hglt ⊢
    clear hg hb5 hv2 hm5 B4 HV
    obtain ⟨c0, c1, c2, c3, c4, c5, c6, c7, c8, c9, c10, c11, c12, c13⟩ := mg_cells M5.out
    unfold mgCells
    go_wp2_with fail
    have hal := (Below.refl w5.heap.size w5).alloc (Nat.le_refl _) (.cells (mgCells m.1 (.slice A2 m.1.es.length cap2)) 27 (0, 0))
    have V5b := Lib.hid (V5.out.below hal (Nat.le_refl _))
    have V6b := Lib.hid (V6.out.below hal (Nat.le_refl _))
    have B5b := Lib.hid (B5.out.trans (hal.mono B5.out.size))
    clear hal V5 V6 B5 M5 c0 c1 c2 c3 c4 c5 c6 c7 c8 c9 c10 c11 c12 c13
    refine (same_any m.1 (.slice A m.1.es.length cap) (.slice A2 m.1.es.length cap2) _ HLEN.out V5b.out V6b.out).mono ?_
    rintro e w6 ⟨rfl, hb6⟩
    have B6 := Lib.hid (B5b.out.trans (hb6.mono B5b.out.size))
    clear hb6
    go_wp2_with fail
    refine (works_any w6).mono ?_
    rintro e w7 ⟨rfl, hb7⟩
    have B7 := Lib.hid (B6.out.trans (hb7.mono B6.out.size))
    clear hb7
    go_wp2_with fail
    go_ret
    exact ⟨rfl, B7.out⟩
end Go.Proofs.Ytdemkcnhcgiheaa
