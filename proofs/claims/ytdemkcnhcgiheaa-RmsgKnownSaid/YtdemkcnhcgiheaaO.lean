/- The walk of lay: a message's bytes. -/
import Derived.Test.YtdemkcnhcgiheaaM
import Derived.Deep.RegionHeld3
namespace Go.Proofs.Ytdemkcnhcgiheaa
open Go.RowKit
set_option maxRecDepth 100000 in
set_option maxHeartbeats 400000 in
theorem lay_any (m : Mg) (v : Value) (w : World) (hm : m.ok) (hk : 0 ≤ m.k ∧ m.k ≤ 7) (hf : 0 ≤ m.f ∧ m.f ≤ 6) (ht : 0 ≤ m.t ∧ m.t ≤ 6) (hv : EntsAt w v m.es) :
    Calls Try.prog 24 #[.agg (mgCells m v)] w fun e w' => e = .returned (.string (bs (layB m))) ∧ Below w.heap.size w w' := by
  obtain ⟨k, f, t, term, ix, lt, cm, es, rj, hi, cx, si, st, sd⟩ := m
  obtain ⟨k, rfl⟩ := Int.eq_ofNat_of_zero_le hk.1
  obtain ⟨f, rfl⟩ := Int.eq_ofNat_of_zero_le hf.1
  obtain ⟨t, rfl⟩ := Int.eq_ofNat_of_zero_le ht.1
  obtain ⟨A, cap, rfl, hcap, hcells⟩ := hv.form2
  obtain ⟨b1, b2, b3, b4, b5, b6, b7, b8, b9, b10, b11⟩ := hm
  dsimp only at *
  have hm8 : ∀ n ∈ [k, f, t, term, ix, lt, cm, es.length], n < 18446744073709551616 := by
    intro n hn
    simp at hn
    omega
  have hm5 : ∀ n ∈ [rj.toNat, hi, cx, si, st], n < 18446744073709551616 := by
    have : rj.toNat ≤ 1 := by cases rj <;> decide
    intro n hn
    simp at hn
    omega
  have l8 := numsB_length _ hm8
  have l5 := numsB_length _ hm5
  simp only [List.length_cons, List.length_nil] at l8 l5
  have hlen : (es.length : Int) ≤ 70 := by omega
  have hk7 : (k : Int) ≤ 7 := by omega
  have hf6 : (f : Int) ≤ 6 := by omega
  have ht6 : (t : Int) ≤ 6 := by omega
  have H8 := Lib.hid hm8
  have H5 := Lib.hid hm5
  have HC := Lib.hid hcells
  have HE := Lib.hid b9
  clear hm8 hm5 hcells hv b9 hk hf ht
  unfold mgCells
  go_enter Try.func24, Try.ntmps24
  go_wp2_with fail
  obtain ⟨M, hM⟩ : ∃ M : Array Value, M = #[.int .i64 (k : Int), .int .i64 (f : Int), .int .i64 (t : Int), .int .u64 (term : Int), .int .u64 (ix : Int), .int .u64 (lt : Int), .int .u64 (cm : Int), .slice A es.length cap, .bool rj, .int .u64 (hi : Int), .int .u64 (cx : Int), .int .u64 (si : Int), .int .u64 (st : Int), .string (bs sd)] := ⟨_, rfl⟩
  have hblk := blk_new (w.alloc (.cells M 27)) (.cells (u64s [k, f, t, term, ix, lt, cm, es.length]) 22)
  rw [World.size_alloc] at hblk
  have hmb := blk_alloc (blk_new w (.cells M 27)) (.cells (u64s [k, f, t, term, ix, lt, cm, es.length]) 22)
  have hB0 : Below w.heap.size w ((w.alloc (.cells M 27)).alloc (.cells (u64s [k, f, t, term, ix, lt, cm, es.length]) 22)) := ((Below.refl _ w).alloc (Nat.le_refl _) _).alloc (by simp) _
  rw [hM] at hblk hmb hB0
  refine (nums_any [] [k, f, t, term, ix, lt, cm, es.length] (w.heap.size + 1) _ hblk H8.out (by simp) (by simp)).mono ?_
  rintro e w1 ⟨rfl, hb1⟩
  have hk1 := blk_below hb1 (blk_lt hmb) hmb
  rw [← hM] at hk1
  have K1 := Lib.hid hk1
  clear hk1
  have G1 := Lib.hid (hB0.trans (hb1.mono hB0.size))
  have HMM := Lib.hid hM
  have c7 := blk_cell K1.out 7
  rw [hM] at c7
  clear hblk hmb hB0 hb1 hM
  rw [List.nil_append]
  go_wp2_with fail
  go_loopw [3, 33] (fun v i W => ∃ j : Nat, j ≤ es.length ∧ i = .int .i64 j ∧ v = .string (bs (numsB [k, f, t, term, ix, lt, cm, es.length] ++ entsB (es.take j))) ∧ Hid (W.heap[w.heap.size]? = some (.cells M 27 (0, 0))) ∧ Hid (Below w.heap.size w W)) (fun _ i _ => es.length - (intOf i).toNat)
  case atStart => exact ⟨0, by omega, rfl, by simp [entsB], K1.out, G1.out⟩
  case round =>
    obtain ⟨j, hj, rfl, rfl, hmb, hB⟩ := hrel
    clear c7
    have hlb := entsB_length (es.take j) (fun e he => HE.out e (List.mem_of_mem_take he))
    rw [List.length_take] at hlb
    have hsz := hB.out.size
    by_cases hlt : j < es.length
    · obtain ⟨g, rfl, hg, e0, e1, e2⟩ := HC.out j hlt
      have d0 : wr.cell? ⟨g, j * 3, none⟩ = some (.int .u64 (es[j].t : Int)) := by rw [hB.out.cell (p := ⟨g, j * 3, none⟩) hg]; exact e0
      have d1 : wr.cell? ⟨g, j * 3 + 1, none⟩ = some (.int .u64 (es[j].i : Int)) := by rw [hB.out.cell (p := ⟨g, j * 3 + 1, none⟩) hg]; exact e1
      have d2 : wr.cell? ⟨g, j * 3 + 2, none⟩ = some (.string (bs es[j].d)) := by rw [hB.out.cell (p := ⟨g, j * 3 + 2, none⟩) hg]; exact e2
      have HN := Lib.hid (entsB_take es j hlt)
      have hek := HE.out es[j] (List.getElem_mem hlt)
      have HEK := Lib.hid hek
      clear e0 e1 e2 hek
      go_wp2_with fail
      refine (putEntry_any _ es[j] _ ⟨HEK.out.t, HEK.out.i, by have := HEK.out.d; omega⟩ (by simp; omega)).mono ?_
      rintro e w2 ⟨rfl, hb2⟩
      have hB2 := (hB.out.alloc hsz (.cells (entCells es[j]) 34)).trans (hb2.mono (B' := w.heap.size) (by simp; omega))
      have hmb2 := blk_below hb2 (blk_lt (blk_alloc hmb.out _)) (blk_alloc hmb.out _)
      have K2 := Lib.hid hB2
      have K3 := Lib.hid hmb2
      clear hB2 hmb2 hb2
      go_wp2_with fail
      refine ⟨⟨j + 1, by omega, by go_num, ?_, K3.out, K2.out⟩, by simp [intOf]; omega⟩
      rw [HN.out]
    · obtain rfl : j = es.length := by omega
      rw [List.take_length] at *
      have hcM := HMM.out
      have c8 := blk_cell hmb.out 8
      rw [hcM] at c8
      clear hcM
      have hmm := @run_makeMap Try.prog
      go_wp2_with fail
      rw [map_up _ _ (blk_new _ _)]
      obtain ⟨W5, hW5⟩ : ∃ W5 : World, W5 = { wr.alloc (.map #[] 0) with heap := (wr.alloc (.map #[] 0)).heap.setIfInBounds wr.heap.size (.map #[{ key := .bool true, val := .int .u64 1, born := 0 }] 1) } := ⟨_, rfl⟩
      rw [← hW5]
      have hmap : W5.heap[wr.heap.size]? = some (.map #[{ key := .bool true, val := .int .u64 1, born := 0 }] 1) := by rw [hW5]; exact (MapKept.heap_set (w := wr.alloc (.map #[] 0)) (blk_new _ _)).1
      have hoth : ∀ r, r < wr.heap.size → W5.heap[r]? = wr.heap[r]? := by
        intro r hr
        rw [hW5]
        exact ((MapKept.heap_set (w := wr.alloc (.map #[] 0)) (blk_new _ _)).2 r (Nat.ne_of_lt hr)).trans (Below.heap_alloc _ _ _ hr)
      have hB5 : Below w.heap.size w W5 := by
        have h1 := hB.out
        refine ⟨?_, ?_, ?_, ?_, fun r hr => (hoth r (by omega)).trans (h1.block r hr)⟩
        · rw [hW5]; exact h1.os
        · rw [hW5]; exact h1.tape
        · rw [hW5]; exact h1.output
        · rw [hW5]; show w.heap.size ≤ (Array.setIfInBounds _ _ _).size; rw [Array.size_setIfInBounds, World.size_alloc]; omega
      have hM5 : W5.heap[w.heap.size]? = some (.cells M 27 (0, 0)) := (hoth _ (blk_lt hmb.out)).trans hmb.out
      clear hW5 hoth c8 hmm
      have hlook := map_look W5 rj _ hmap
      have hcM := HMM.out
      have c8 := blk_cell hM5 8
      have c9 := blk_cell hM5 9
      have c10 := blk_cell hM5 10
      have c11 := blk_cell hM5 11
      have c12 := blk_cell hM5 12
      have c13 := blk_cell hM5 13
      rw [hcM] at c8 c9 c10 c11 c12 c13
      have h5b := hB5.size
      have HB5 := Lib.hid hB5
      have HM5 := Lib.hid hM5
      have HMP := Lib.hid hmap
      have hbl := blk_lt hM5
      clear hcM hB5 hM5 hmap
      have hl56 : (numsB [k, f, t, term, ix, lt, cm, es.length] ++ entsB es).length ≤ 900000 := by rw [List.length_append]; omega
      have hl27 : (numsB [k, f, t, term, ix, lt, cm, es.length] ++ (entsB es ++ numsB [rj.toNat, hi, cx, si, st])).length ≤ 900000 := by rw [List.length_append, List.length_append]; omega
      have b11 : sd.length ≤ 90000 := by omega
      have HL56 := Lib.hid hl56
      have HL27 := Lib.hid hl27
      clear hl56 hl27 l8 l5 hlb
      go_wp2_with fail
      replace c9 : W5.cell? ⟨w.heap.size, 9, none⟩ = some (.int .u64 (hi : Int)) := c9
      replace c10 : W5.cell? ⟨w.heap.size, 10, none⟩ = some (.int .u64 (cx : Int)) := c10
      replace c11 : W5.cell? ⟨w.heap.size, 11, none⟩ = some (.int .u64 (si : Int)) := c11
      replace c12 : W5.cell? ⟨w.heap.size, 12, none⟩ = some (.int .u64 (st : Int)) := c12
      replace c13 : W5.cell? ⟨w.heap.size, 13, none⟩ = some (.string (bs sd)) := c13
      clear c8
      have n9 := World.new_ne W5 _ c9
      have n10 := World.new_ne W5 _ c10
      have n11 := World.new_ne W5 _ c11
      have n12 := World.new_ne W5 _ c12
      have n13 := World.new_ne W5 _ c13
      go_region_held3 (fun W => W.cell? ⟨w.heap.size, 9, none⟩ = some (.int .u64 (hi : Int)) ∧ W.cell? ⟨w.heap.size, 10, none⟩ = some (.int .u64 (cx : Int)) ∧ W.cell? ⟨w.heap.size, 11, none⟩ = some (.int .u64 (si : Int)) ∧ W.cell? ⟨w.heap.size, 12, none⟩ = some (.int .u64 (st : Int)) ∧ W.cell? ⟨w.heap.size, 13, none⟩ = some (.string (bs sd)))
        (first | exact ⟨c9, c10, c11, c12, c13⟩ | exact ⟨k9, k10, k11, k12, k13⟩ | go_keep)
        (first
          | (go_at_call 56
             refine (nums_any (numsB [k, f, t, term, ix, lt, cm, es.length] ++ entsB es) [rj.toNat, hi, cx, si, st] W5.heap.size (W5.alloc (.cells (u64s [rj.toNat, hi, cx, si, st]) 22)).drew (blk_new W5 _) H5.out (by simp) HL56.out).mono ?_
             rintro e w2 ⟨rfl, hb2⟩
             have hb3 := ((Below.refl W5.heap.size W5).alloc (Nat.le_refl _) (.cells (u64s [rj.toNat, hi, cx, si, st]) 22)).drew.trans (hb2.mono (B' := W5.heap.size) (by show W5.heap.size ≤ (W5.alloc _).heap.size; rw [World.size_alloc]; omega))
             have k9 := (hb3.cell (p := ⟨w.heap.size, 9, none⟩) hbl).trans c9
             have k10 := (hb3.cell (p := ⟨w.heap.size, 10, none⟩) hbl).trans c10
             have k11 := (hb3.cell (p := ⟨w.heap.size, 11, none⟩) hbl).trans c11
             have k12 := (hb3.cell (p := ⟨w.heap.size, 12, none⟩) hbl).trans c12
             have k13 := (hb3.cell (p := ⟨w.heap.size, 13, none⟩) hbl).trans c13
             have HB3 := Lib.hid hb3
             clear hb2 hb3)
          | (go_at_call 27
             refine (putText_any (numsB [k, f, t, term, ix, lt, cm, es.length] ++ (entsB es ++ numsB [rj.toNat, hi, cx, si, st])) sd _ HL27.out b11).mono ?_
             rintro e w3 ⟨rfl, hb4⟩
             have hbl2 : w.heap.size < w2.heap.size := Nat.lt_of_lt_of_le hbl HB3.out.size
             have k9 := (hb4.cell (p := ⟨w.heap.size, 9, none⟩) hbl2).trans k9
             have k10 := (hb4.cell (p := ⟨w.heap.size, 10, none⟩) hbl2).trans k10
             have k11 := (hb4.cell (p := ⟨w.heap.size, 11, none⟩) hbl2).trans k11
             have k12 := (hb4.cell (p := ⟨w.heap.size, 12, none⟩) hbl2).trans k12
             have k13 := (hb4.cell (p := ⟨w.heap.size, 13, none⟩) hbl2).trans k13
             have HB4 := Lib.hid hb4
             clear hb4))
      have hBB := HB5.out.trans ((HB3.out.mono h5b).trans (HB4.out.mono (Nat.le_of_lt hbl2)))
      have HBB := Lib.hid hBB
      clear hBB k9 k10 k11 k12 k13 c9 c10 c11 c12 c13
      go_wp2_with fail
      go_ret
      exact ⟨rfl, HBB.out⟩
end Go.Proofs.Ytdemkcnhcgiheaa
