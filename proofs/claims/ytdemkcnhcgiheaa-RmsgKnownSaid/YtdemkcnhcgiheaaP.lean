/- The walk of the document's bytes: what it lays is what lay lays. -/
import Derived.Test.YtdemkcnhcgiheaaO
namespace Go.Proofs.Ytdemkcnhcgiheaa
open Go.RowKit
set_option maxRecDepth 100000 in
set_option maxHeartbeats 1600000 in
theorem refBytes_any (m : Mg) (v : Value) (w : World) (hm : m.ok) (hk : 0 ≤ m.k ∧ m.k ≤ 7) (hf : 0 ≤ m.f ∧ m.f ≤ 6) (ht : 0 ≤ m.t ∧ m.t ≤ 6) (hv : EntsAt w v m.es) :
    Calls Try.prog 26 #[.agg (mgCells m v)] w fun e w' => e = .returned (.string (bs (layB m))) ∧ Below w.heap.size w w' := by
  obtain ⟨k, f, t, term, ix, lt, cm, es, rj, hi, cx, si, st, sd⟩ := m
  obtain ⟨k, rfl⟩ := Int.eq_ofNat_of_zero_le hk.1
  obtain ⟨f, rfl⟩ := Int.eq_ofNat_of_zero_le hf.1
  obtain ⟨t, rfl⟩ := Int.eq_ofNat_of_zero_le ht.1
  obtain ⟨A, cap, rfl, hcap, hcells⟩ := hv.form2
  obtain ⟨b1, b2, b3, b4, b5, b6, b7, b8, b9, b10, b11⟩ := hm
  dsimp only at *
  have hm8 : ∀ n ∈ [k, f, t, term, ix, lt, cm, es.length], n < 18446744073709551616 := by
    intro n hn
    simp at hn
    omega
  have hm5 : ∀ n ∈ [rj.toNat, hi, cx, si, st], n < 18446744073709551616 := by
    have : rj.toNat ≤ 1 := by cases rj <;> decide
    intro n hn
    simp at hn
    omega
  have l8 := numsB_length _ hm8
  have l5 := numsB_length _ hm5
  simp only [List.length_cons, List.length_nil] at l8 l5
  have hlen : (es.length : Int) ≤ 70 := by omega
  have hk7 : (k : Int) ≤ 7 := by omega
  have hf6 : (f : Int) ≤ 6 := by omega
  have ht6 : (t : Int) ≤ 6 := by omega
  have H8 := Lib.hid hm8
  have H5 := Lib.hid hm5
  have HC := Lib.hid hcells
  have HE := Lib.hid b9
  clear hm8 hm5 hcells hv b9 hk hf ht
  unfold mgCells
  go_enter Try.func26, Try.ntmps26
  go_wp2_with fail
  obtain ⟨M, hM⟩ : ∃ M : Array Value, M = #[.int .i64 (k : Int), .int .i64 (f : Int), .int .i64 (t : Int), .int .u64 (term : Int), .int .u64 (ix : Int), .int .u64 (lt : Int), .int .u64 (cm : Int), .slice A es.length cap, .bool rj, .int .u64 (hi : Int), .int .u64 (cx : Int), .int .u64 (si : Int), .int .u64 (st : Int), .string (bs sd)] := ⟨_, rfl⟩
  obtain ⟨W0, hW0⟩ : ∃ W0 : World, W0 = (w.alloc (.cells #[.int .i64 (k : Int), .int .i64 (f : Int), .int .i64 (t : Int), .int .u64 (term : Int), .int .u64 (ix : Int), .int .u64 (lt : Int), .int .u64 (cm : Int), .slice A es.length cap, .bool rj, .int .u64 (hi : Int), .int .u64 (cx : Int), .int .u64 (si : Int), .int .u64 (st : Int), .string (bs sd)] 27)).alloc (.cells #[.int .u64 (k : Int), .int .u64 (f : Int), .int .u64 (t : Int), .int .u64 (term : Int), .int .u64 (ix : Int), .int .u64 (lt : Int), .int .u64 (cm : Int), .int .u64 (es.length : Int)] 22) := ⟨_, rfl⟩
  rw [← hW0]
  have hblk : W0.heap[w.heap.size + 1]? = some (.cells (u64s [k, f, t, term, ix, lt, cm, es.length]) 22 (0, 0)) := by
    have h := blk_new (w.alloc (.cells #[.int .i64 (k : Int), .int .i64 (f : Int), .int .i64 (t : Int), .int .u64 (term : Int), .int .u64 (ix : Int), .int .u64 (lt : Int), .int .u64 (cm : Int), .slice A es.length cap, .bool rj, .int .u64 (hi : Int), .int .u64 (cx : Int), .int .u64 (si : Int), .int .u64 (st : Int), .string (bs sd)] 27)) (.cells (u64s [k, f, t, term, ix, lt, cm, es.length]) 22)
    rw [World.size_alloc] at h
    rw [hW0]; exact h
  have hmb : W0.heap[w.heap.size]? = some (.cells M 27 (0, 0)) := by rw [hW0, hM]; exact blk_alloc (blk_new w _) _
  have hB0 : Below w.heap.size w W0 := by rw [hW0]; exact ((Below.refl _ w).alloc (Nat.le_refl _) _).alloc (by simp) _
  have HM := Lib.hid hM
  have HBLK := Lib.hid hblk
  have HMB := Lib.hid hmb
  have HB0 := Lib.hid hB0
  clear hM hW0 hblk hmb hB0
  go_loopw [3, 5] (fun v i W => ∃ j : Nat, j ≤ 8 ∧ i = .int .i64 j ∧ v = .string (bs (([] : Bs) ++ numsB (([k, f, t, term, ix, lt, cm, es.length] : List Nat).take j))) ∧ Hid (Below W0.heap.size W0 W)) (fun _ i _ => 8 - (intOf i).toNat)
  case atStart => exact ⟨0, by omega, rfl, by first | rfl | (simp [numsB]; done) | (simp [numsB]; rfl), Below.refl _ _⟩
  case round =>
    obtain ⟨j, hj, rfl, rfl, hB⟩ := hrel
    by_cases hlt : j < 8
    · have hlt2 : j < ([k, f, t, term, ix, lt, cm, es.length] : List Nat).length := hlt
      have hnn := H8.out _ (List.getElem_mem hlt2)
      have hc : wr.cell? ⟨w.heap.size + 1, j, none⟩ = some (.int .u64 ((([k, f, t, term, ix, lt, cm, es.length] : List Nat)[j] : Nat) : Int)) := by
        rw [hB.out.cell (p := ⟨w.heap.size + 1, j, none⟩) (blk_lt HBLK.out), blk_cell HBLK.out, u64s_get _ _ hlt2]
      have hnl := numsB_length (([k, f, t, term, ix, lt, cm, es.length] : List Nat).take j) (fun n hn => H8.out n (List.mem_of_mem_take hn))
      rw [List.length_take] at hnl
      have hpl : (([] : Bs) ++ numsB (([k, f, t, term, ix, lt, cm, es.length] : List Nat).take j)).length ≤ 1000000 := by
        rw [List.length_append]; first | omega | (simp; omega)
      have hnext := numsB_take [k, f, t, term, ix, lt, cm, es.length] j hlt2
      have HN := Lib.hid hnext
      have HPL := Lib.hid hpl
      obtain ⟨x, hx⟩ : ∃ x : Nat, x = ([k, f, t, term, ix, lt, cm, es.length] : List Nat)[j] := ⟨_, rfl⟩
      rw [← hx] at hc hnn
      have HX := Lib.hid hx
      clear hnext hpl hnl hx
      go_wp2_with fail
      refine (refPutNum_any (([] : Bs) ++ numsB (([k, f, t, term, ix, lt, cm, es.length] : List Nat).take j)) x wr hnn HPL.out).mono ?_
      rintro e w1 ⟨rfl, hb1⟩
      have HB1 := Lib.hid (hB.out.trans (hb1.mono hB.out.size))
      clear hb1
      go_wp2_with fail
      refine ⟨⟨j + 1, by omega, by go_num, ?_, HB1.out⟩, by simp [intOf]; omega⟩
      rw [HN.out, HX.out]
      first | rfl | simp
    · obtain rfl : j = 8 := by omega
      have e8 : ([] : Bs) ++ numsB (List.take 8 [k, f, t, term, ix, lt, cm, es.length]) = numsB [k, f, t, term, ix, lt, cm, es.length] := rfl
      rw [e8, show ((8 : Nat) : Int) = (8 : Int) from rfl]
      clear e8
      go_wp2_with fail
      go_loopw [3, 6] (fun v i W => ∃ j : Nat, j ≤ es.length ∧ i = .int .i64 j ∧ v = .string (bs (numsB [k, f, t, term, ix, lt, cm, es.length] ++ entsB (es.take j))) ∧ Hid (Below W0.heap.size W0 W)) (fun _ i _ => es.length - (intOf i).toNat)
      case atStart => exact ⟨0, by omega, rfl, by simp [entsB], hB⟩
      case round =>
        clear hB hlt hj
        obtain ⟨j, hj, rfl, rfl, hB⟩ := hrel
        have hlb := entsB_length (es.take j) (fun e he => HE.out e (List.mem_of_mem_take he))
        rw [List.length_take] at hlb
        have hpl : (numsB [k, f, t, term, ix, lt, cm, es.length] ++ entsB (es.take j)).length ≤ 800000 := by rw [List.length_append]; omega
        have HPL := Lib.hid hpl
        have hmb := blk_below hB.out (blk_lt HMB.out) HMB.out
        have c7 := blk_cell hmb 7
        have c8 := blk_cell hmb 8
        rw [HM.out] at c7 c8
        replace c7 : wr.cell? ⟨w.heap.size, 7, none⟩ = some (.slice A es.length cap) := c7
        replace c8 : wr.cell? ⟨w.heap.size, 8, none⟩ = some (.bool rj) := c8
        clear hmb hlb hpl
        by_cases hlt : j < es.length
        · obtain ⟨g, rfl, hg, e0, e1, e2⟩ := HC.out j hlt
          have hg0 := Nat.lt_of_lt_of_le hg HB0.out.size
          have d0 : wr.cell? ⟨g, j * 3, none⟩ = some (.int .u64 (es[j].t : Int)) := by rw [hB.out.cell (p := ⟨g, j * 3, none⟩) hg0, HB0.out.cell (p := ⟨g, j * 3, none⟩) hg]; exact e0
          have d1 : wr.cell? ⟨g, j * 3 + 1, none⟩ = some (.int .u64 (es[j].i : Int)) := by rw [hB.out.cell (p := ⟨g, j * 3 + 1, none⟩) hg0, HB0.out.cell (p := ⟨g, j * 3 + 1, none⟩) hg]; exact e1
          have d2 : wr.cell? ⟨g, j * 3 + 2, none⟩ = some (.string (bs es[j].d)) := by rw [hB.out.cell (p := ⟨g, j * 3 + 2, none⟩) hg0, HB0.out.cell (p := ⟨g, j * 3 + 2, none⟩) hg]; exact e2
          have HN := Lib.hid (entsB_take es j hlt)
          have HEK := Lib.hid (HE.out es[j] (List.getElem_mem hlt))
          clear e0 e1 e2
          go_wp2_with fail
          refine (refPutEntry_any _ es[j] _ ⟨HEK.out.t, HEK.out.i, by have := HEK.out.d; omega⟩ HPL.out).mono ?_
          rintro e w2 ⟨rfl, hb2⟩
          have K2 := Lib.hid (hB.out.trans (hb2.mono hB.out.size))
          clear hb2
          go_wp2_with fail
          refine ⟨⟨j + 1, by omega, by go_num, ?_, K2.out⟩, by simp [intOf]; omega⟩
          rw [HN.out]
          first | done | rfl | simp
        · obtain rfl : j = es.length := by omega
          rw [List.take_length] at *
          have hsz := hB.out.size
          have hmb := blk_below hB.out (blk_lt HMB.out) HMB.out
          have c9 := blk_cell hmb 9
          have c10 := blk_cell hmb 10
          have c11 := blk_cell hmb 11
          have c12 := blk_cell hmb 12
          rw [HM.out] at c9 c10 c11 c12
          replace c9 : wr.cell? ⟨w.heap.size, 9, none⟩ = some (.int .u64 (hi : Int)) := c9
          replace c10 : wr.cell? ⟨w.heap.size, 10, none⟩ = some (.int .u64 (cx : Int)) := c10
          replace c11 : wr.cell? ⟨w.heap.size, 11, none⟩ = some (.int .u64 (si : Int)) := c11
          replace c12 : wr.cell? ⟨w.heap.size, 12, none⟩ = some (.int .u64 (st : Int)) := c12
          have hBw := HB0.out.trans (hB.out.mono HB0.out.size)
          have HBw := Lib.hid hBw
          have HMB2 := Lib.hid hmb
          have hlt2 := blk_lt hmb
          clear hmb hBw
          cases rj
          ·   go_wp2_with fail
              obtain ⟨W2, hW2⟩ : ∃ W2 : World, W2 = wr.alloc (.cells #[.int .u64 0, .int .u64 (hi : Int), .int .u64 (cx : Int), .int .u64 (si : Int), .int .u64 (st : Int)] 22) := ⟨_, rfl⟩
              rw [← hW2]
              have hblk : W2.heap[wr.heap.size]? = some (.cells (u64s [false.toNat, hi, cx, si, st]) 22 (0, 0)) := by rw [hW2]; exact blk_new wr _
              have hmb2 : W2.heap[w.heap.size]? = some (.cells M 27 (0, 0)) := by rw [hW2]; exact blk_alloc HMB2.out _
              have hB2 : Below w.heap.size w W2 := by rw [hW2]; exact HBw.out.alloc HBw.out.size _
              obtain ⟨q, hq⟩ : ∃ q, wr.heap.size = q := ⟨_, rfl⟩
              rw [hq] at hblk ⊢
              have HBLK2 := Lib.hid hblk
              have HMB3 := Lib.hid hmb2
              have HB2 := Lib.hid hB2
              have HPLL := Lib.hid (show (numsB [k, f, t, term, ix, lt, cm, es.length] ++ entsB es).length ≤ 900000 by have := HPL.out; omega)
              clear hq hW2 hblk hmb2 hB2 c7 c8 c9 c10 c11 c12 hB hlt hj hlt2 hsz
              go_loopw [3, 8] (fun v i W => ∃ j : Nat, j ≤ 5 ∧ i = .int .i64 j ∧ v = .string (bs (numsB [k, f, t, term, ix, lt, cm, es.length] ++ (entsB es ++ numsB (([false.toNat, hi, cx, si, st] : List Nat).take j)))) ∧ Hid (Below W2.heap.size W2 W)) (fun _ i _ => 5 - (intOf i).toNat)
              case atStart => exact ⟨0, by omega, rfl, by first | rfl | (simp [numsB]; done) | (simp [numsB]; rfl), Below.refl _ _⟩
              case round =>
                obtain ⟨j, hj, rfl, rfl, hB⟩ := hrel
                by_cases hlt : j < 5
                · have hlt2 : j < ([false.toNat, hi, cx, si, st] : List Nat).length := hlt
                  have hnn := H5.out _ (List.getElem_mem hlt2)
                  have hc : wr.cell? ⟨q, j, none⟩ = some (.int .u64 ((([false.toNat, hi, cx, si, st] : List Nat)[j] : Nat) : Int)) := by
                    rw [hB.out.cell (p := ⟨q, j, none⟩) (blk_lt HBLK2.out), blk_cell HBLK2.out, u64s_get _ _ hlt2]
                  have hnl := numsB_length (([false.toNat, hi, cx, si, st] : List Nat).take j) (fun n hn => H5.out n (List.mem_of_mem_take hn))
                  rw [List.length_take] at hnl
                  have hpl : (numsB [k, f, t, term, ix, lt, cm, es.length] ++ (entsB es ++ numsB (([false.toNat, hi, cx, si, st] : List Nat).take j))).length ≤ 1000000 := by
                    have := HPLL.out; rw [List.length_append] at this; rw [List.length_append, List.length_append]; omega
                  have hnext := numsB_take [false.toNat, hi, cx, si, st] j hlt2
                  have HN := Lib.hid hnext
                  have HPL := Lib.hid hpl
                  obtain ⟨x, hx⟩ : ∃ x : Nat, x = ([false.toNat, hi, cx, si, st] : List Nat)[j] := ⟨_, rfl⟩
                  rw [← hx] at hc hnn
                  have HX := Lib.hid hx
                  clear hnext hpl hnl hx
                  go_wp2_with fail
                  refine (refPutNum_any (numsB [k, f, t, term, ix, lt, cm, es.length] ++ (entsB es ++ numsB (([false.toNat, hi, cx, si, st] : List Nat).take j))) x wr hnn HPL.out).mono ?_
                  rintro e w1 ⟨rfl, hb1⟩
                  have HB1 := Lib.hid (hB.out.trans (hb1.mono hB.out.size))
                  clear hb1
                  go_wp2_with fail
                  refine ⟨⟨j + 1, by omega, by go_num, ?_, HB1.out⟩, by simp [intOf]; omega⟩
                  rw [HN.out, HX.out]
                  first | rfl | simp
                · obtain rfl : j = 5 := by omega
                  have e5 : (List.take 5 [false.toNat, hi, cx, si, st] : List Nat) = [false.toNat, hi, cx, si, st] := rfl
                  rw [e5, show ((5 : Nat) : Int) = (5 : Int) from rfl]
                  clear e5
                  have hmb := blk_below hB.out (blk_lt HMB3.out) HMB3.out
                  have c13 := blk_cell hmb 13
                  rw [HM.out] at c13
                  replace c13 : wr.cell? ⟨w.heap.size, 13, none⟩ = some (.string (bs sd)) := c13
                  have hpl : (numsB [k, f, t, term, ix, lt, cm, es.length] ++ (entsB es ++ numsB [false.toNat, hi, cx, si, st])).length ≤ 900000 := by
                    have := HPL.out
                    rw [List.length_append] at this
                    rw [List.length_append, List.length_append]
                    omega
                  have HPL3 := Lib.hid hpl
                  clear hmb hpl
                  go_wp2_with fail
                  refine (refPutText_any _ sd _ HPL3.out (by omega)).mono ?_
                  rintro e w3 ⟨rfl, hb3⟩
                  have hBB := HB2.out.trans ((hB.out.trans (hb3.mono hB.out.size)).mono HB2.out.size)
                  have HBB := Lib.hid hBB
                  clear hBB hb3
                  go_wp2_with fail
                  go_ret
                  refine ⟨?_, HBB.out⟩
                  first | rfl | (simp only [layB, List.append_assoc]; rfl)
          ·   go_wp2_with fail
              obtain ⟨W2, hW2⟩ : ∃ W2 : World, W2 = wr.alloc (.cells #[.int .u64 1, .int .u64 (hi : Int), .int .u64 (cx : Int), .int .u64 (si : Int), .int .u64 (st : Int)] 22) := ⟨_, rfl⟩
              rw [← hW2]
              have hblk : W2.heap[wr.heap.size]? = some (.cells (u64s [true.toNat, hi, cx, si, st]) 22 (0, 0)) := by rw [hW2]; exact blk_new wr _
              have hmb2 : W2.heap[w.heap.size]? = some (.cells M 27 (0, 0)) := by rw [hW2]; exact blk_alloc HMB2.out _
              have hB2 : Below w.heap.size w W2 := by rw [hW2]; exact HBw.out.alloc HBw.out.size _
              obtain ⟨q, hq⟩ : ∃ q, wr.heap.size = q := ⟨_, rfl⟩
              rw [hq] at hblk ⊢
              have HBLK2 := Lib.hid hblk
              have HMB3 := Lib.hid hmb2
              have HB2 := Lib.hid hB2
              have HPLL := Lib.hid (show (numsB [k, f, t, term, ix, lt, cm, es.length] ++ entsB es).length ≤ 900000 by have := HPL.out; omega)
              clear hq hW2 hblk hmb2 hB2 c7 c8 c9 c10 c11 c12 hB hlt hj hlt2 hsz
              go_loopw [3, 8] (fun v i W => ∃ j : Nat, j ≤ 5 ∧ i = .int .i64 j ∧ v = .string (bs (numsB [k, f, t, term, ix, lt, cm, es.length] ++ (entsB es ++ numsB (([true.toNat, hi, cx, si, st] : List Nat).take j)))) ∧ Hid (Below W2.heap.size W2 W)) (fun _ i _ => 5 - (intOf i).toNat)
              case atStart => exact ⟨0, by omega, rfl, by first | rfl | (simp [numsB]; done) | (simp [numsB]; rfl), Below.refl _ _⟩
              case round =>
                obtain ⟨j, hj, rfl, rfl, hB⟩ := hrel
                by_cases hlt : j < 5
                · have hlt2 : j < ([true.toNat, hi, cx, si, st] : List Nat).length := hlt
                  have hnn := H5.out _ (List.getElem_mem hlt2)
                  have hc : wr.cell? ⟨q, j, none⟩ = some (.int .u64 ((([true.toNat, hi, cx, si, st] : List Nat)[j] : Nat) : Int)) := by
                    rw [hB.out.cell (p := ⟨q, j, none⟩) (blk_lt HBLK2.out), blk_cell HBLK2.out, u64s_get _ _ hlt2]
                  have hnl := numsB_length (([true.toNat, hi, cx, si, st] : List Nat).take j) (fun n hn => H5.out n (List.mem_of_mem_take hn))
                  rw [List.length_take] at hnl
                  have hpl : (numsB [k, f, t, term, ix, lt, cm, es.length] ++ (entsB es ++ numsB (([true.toNat, hi, cx, si, st] : List Nat).take j))).length ≤ 1000000 := by
                    have := HPLL.out; rw [List.length_append] at this; rw [List.length_append, List.length_append]; omega
                  have hnext := numsB_take [true.toNat, hi, cx, si, st] j hlt2
                  have HN := Lib.hid hnext
                  have HPL := Lib.hid hpl
                  obtain ⟨x, hx⟩ : ∃ x : Nat, x = ([true.toNat, hi, cx, si, st] : List Nat)[j] := ⟨_, rfl⟩
                  rw [← hx] at hc hnn
                  have HX := Lib.hid hx
                  clear hnext hpl hnl hx
                  go_wp2_with fail
                  refine (refPutNum_any (numsB [k, f, t, term, ix, lt, cm, es.length] ++ (entsB es ++ numsB (([true.toNat, hi, cx, si, st] : List Nat).take j))) x wr hnn HPL.out).mono ?_
                  rintro e w1 ⟨rfl, hb1⟩
                  have HB1 := Lib.hid (hB.out.trans (hb1.mono hB.out.size))
                  clear hb1
                  go_wp2_with fail
                  refine ⟨⟨j + 1, by omega, by go_num, ?_, HB1.out⟩, by simp [intOf]; omega⟩
                  rw [HN.out, HX.out]
                  first | rfl | simp
                · obtain rfl : j = 5 := by omega
                  have e5 : (List.take 5 [true.toNat, hi, cx, si, st] : List Nat) = [true.toNat, hi, cx, si, st] := rfl
                  rw [e5, show ((5 : Nat) : Int) = (5 : Int) from rfl]
                  clear e5
                  have hmb := blk_below hB.out (blk_lt HMB3.out) HMB3.out
                  have c13 := blk_cell hmb 13
                  rw [HM.out] at c13
                  replace c13 : wr.cell? ⟨w.heap.size, 13, none⟩ = some (.string (bs sd)) := c13
                  have hpl : (numsB [k, f, t, term, ix, lt, cm, es.length] ++ (entsB es ++ numsB [true.toNat, hi, cx, si, st])).length ≤ 900000 := by
                    have := HPL.out
                    rw [List.length_append] at this
                    rw [List.length_append, List.length_append]
                    omega
                  have HPL3 := Lib.hid hpl
                  clear hmb hpl
                  go_wp2_with fail
                  refine (refPutText_any _ sd _ HPL3.out (by omega)).mono ?_
                  rintro e w3 ⟨rfl, hb3⟩
                  have hBB := HB2.out.trans ((hB.out.trans (hb3.mono hB.out.size)).mono HB2.out.size)
                  have HBB := Lib.hid hBB
                  clear hBB hb3
                  go_wp2_with fail
                  go_ret
                  refine ⟨?_, HBB.out⟩
                  first | rfl | (simp only [layB, List.append_assoc]; rfl)
end Go.Proofs.Ytdemkcnhcgiheaa
