/- The walk of Same, where the two are alike. -/
import Derived.Test.YtdemkcnhcgiheaaU
namespace Go.Proofs.Ytdemkcnhcgiheaa
open Go.RowKit
set_option maxRecDepth 100000 in
set_option maxHeartbeats 1600000 in
theorem same_any (m : Mg) (va vb : Value) (w : World) (hl : m.es.length ≤ 100000) (hva : EntsAt w va m.es) (hvb : EntsAt w vb m.es) :
    Calls Try.prog 21 #[.agg (mgCells m va), .agg (mgCells m vb)] w fun e w' => e = .returned (.bool true) ∧ Below w.heap.size w w' := by
  obtain ⟨A, capa, rfl, hcapa, hca⟩ := hva.form2
  obtain ⟨B, capb, rfl, hcapb, hcb⟩ := hvb.form2
  have hwa := blk_alloc (blk_new w (.cells (mgCells m (.slice A m.es.length capa)) 27)) (.cells (mgCells m (.slice B m.es.length capb)) 27)
  have hwb := blk_new (w.alloc (.cells (mgCells m (.slice A m.es.length capa)) 27)) (.cells (mgCells m (.slice B m.es.length capb)) 27)
  rw [World.size_alloc] at hwb
  have hbw : Below w.heap.size w ((w.alloc (.cells (mgCells m (.slice A m.es.length capa)) 27)).alloc (.cells (mgCells m (.slice B m.es.length capb)) 27)) := ((Below.refl _ w).alloc (Nat.le_refl _) _).alloc (by simp) _
  obtain ⟨W0, hW0⟩ : ∃ W0 : World, W0 = (w.alloc (.cells (mgCells m (.slice A m.es.length capa)) 27)).alloc (.cells (mgCells m (.slice B m.es.length capb)) 27) := ⟨_, rfl⟩
  rw [← hW0] at hwa hwb hbw
  obtain ⟨a0, a1, a2, a3, a4, a5, a6, a7, a8, a9, a10, a11, a12, a13⟩ := mg_cells hwa
  obtain ⟨d0, d1, d2, d3, d4, d5, d6, d7, d8, d9, d10, d11, d12, d13⟩ := mg_cells hwb
  have HW0 := Lib.hid hW0
  have HBW := Lib.hid hbw
  have HCA := Lib.hid hca
  have HCB := Lib.hid hcb
  have hsz : W0.heap.size = w.heap.size + 2 := by rw [hW0]; simp
  clear hwa hwb hbw hca hcb hva hvb hW0
  obtain ⟨k0, f, t, term, ix, lt, cm, es, rj, hi, cx, si, st, sd⟩ := m
  unfold mgCells at *
  dsimp only at *
  have hl2 : (es.length : Int) ≤ 100000 := by omega
  go_enter Try.func21, Try.ntmps21
  go_wp2_with fail
  rw [← HW0.out]
  go_loopw [5] (fun i W => ∃ j : Nat, j ≤ es.length ∧ i = .int .i64 j ∧ Hid (Below W0.heap.size W0 W)) (fun i _ => es.length - (intOf i).toNat)
  case atStart => exact ⟨0, by omega, rfl, Below.refl _ _⟩
  case round =>
    obtain ⟨j, hj, rfl, hB⟩ := hrel
    have la : w.heap.size < W0.heap.size := by omega
    have lb : w.heap.size + 1 < W0.heap.size := by omega
    have x7 := (hB.out.cell (p := ⟨w.heap.size, 7, none⟩) la).trans a7
    have y7 := (hB.out.cell (p := ⟨w.heap.size + 1, 7, none⟩) lb).trans d7
    by_cases hlt : j < es.length
    · obtain ⟨ga, rfl, hga, p0, p1, p2⟩ := HCA.out j hlt
      obtain ⟨gb, rfl, hgb, q0, q1, q2⟩ := HCB.out j hlt
      have hga0 : ga < W0.heap.size := by omega
      have hgb0 : gb < W0.heap.size := by omega
      obtain ⟨et, het⟩ : ∃ x, x = es[j].t := ⟨_, rfl⟩
      obtain ⟨ei, hei⟩ : ∃ x, x = es[j].i := ⟨_, rfl⟩
      obtain ⟨ed, hed⟩ : ∃ x, x = es[j].d := ⟨_, rfl⟩
      rw [← het] at p0 q0
      rw [← hei] at p1 q1
      rw [← hed] at p2 q2
      replace p0 := (hB.out.cell (p := ⟨ga, j * 3, none⟩) hga0).trans ((HBW.out.cell (p := ⟨ga, j * 3, none⟩) hga).trans p0)
      replace p1 := (hB.out.cell (p := ⟨ga, j * 3 + 1, none⟩) hga0).trans ((HBW.out.cell (p := ⟨ga, j * 3 + 1, none⟩) hga).trans p1)
      replace p2 := (hB.out.cell (p := ⟨ga, j * 3 + 2, none⟩) hga0).trans ((HBW.out.cell (p := ⟨ga, j * 3 + 2, none⟩) hga).trans p2)
      replace q0 := (hB.out.cell (p := ⟨gb, j * 3, none⟩) hgb0).trans ((HBW.out.cell (p := ⟨gb, j * 3, none⟩) hgb).trans q0)
      replace q1 := (hB.out.cell (p := ⟨gb, j * 3 + 1, none⟩) hgb0).trans ((HBW.out.cell (p := ⟨gb, j * 3 + 1, none⟩) hgb).trans q1)
      replace q2 := (hB.out.cell (p := ⟨gb, j * 3 + 2, none⟩) hgb0).trans ((HBW.out.cell (p := ⟨gb, j * 3 + 2, none⟩) hgb).trans q2)
      clear het hei hed a0 a1 a2 a3 a4 a5 a6 a7 a8 a9 a10 a11 a12 a13 d0 d1 d2 d3 d4 d5 d6 d7 d8 d9 d10 d11 d12 d13
      go_wp2_with fail
      go_quiet (fail)
      go_wp2_with fail
      exact ⟨⟨j + 1, by omega, by go_num, below_drewN hB.out nq⟩, by simp [intOf]; omega⟩
    · obtain rfl : j = es.length := by omega
      replace a0 := (hB.out.cell (p := ⟨w.heap.size, 0, none⟩) la).trans a0
      replace d0 := (hB.out.cell (p := ⟨w.heap.size + 1, 0, none⟩) lb).trans d0
      replace a1 := (hB.out.cell (p := ⟨w.heap.size, 1, none⟩) la).trans a1
      replace d1 := (hB.out.cell (p := ⟨w.heap.size + 1, 1, none⟩) lb).trans d1
      replace a2 := (hB.out.cell (p := ⟨w.heap.size, 2, none⟩) la).trans a2
      replace d2 := (hB.out.cell (p := ⟨w.heap.size + 1, 2, none⟩) lb).trans d2
      replace a3 := (hB.out.cell (p := ⟨w.heap.size, 3, none⟩) la).trans a3
      replace d3 := (hB.out.cell (p := ⟨w.heap.size + 1, 3, none⟩) lb).trans d3
      replace a4 := (hB.out.cell (p := ⟨w.heap.size, 4, none⟩) la).trans a4
      replace d4 := (hB.out.cell (p := ⟨w.heap.size + 1, 4, none⟩) lb).trans d4
      replace a5 := (hB.out.cell (p := ⟨w.heap.size, 5, none⟩) la).trans a5
      replace d5 := (hB.out.cell (p := ⟨w.heap.size + 1, 5, none⟩) lb).trans d5
      replace a6 := (hB.out.cell (p := ⟨w.heap.size, 6, none⟩) la).trans a6
      replace d6 := (hB.out.cell (p := ⟨w.heap.size + 1, 6, none⟩) lb).trans d6
      replace a8 := (hB.out.cell (p := ⟨w.heap.size, 8, none⟩) la).trans a8
      replace d8 := (hB.out.cell (p := ⟨w.heap.size + 1, 8, none⟩) lb).trans d8
      replace a9 := (hB.out.cell (p := ⟨w.heap.size, 9, none⟩) la).trans a9
      replace d9 := (hB.out.cell (p := ⟨w.heap.size + 1, 9, none⟩) lb).trans d9
      replace a10 := (hB.out.cell (p := ⟨w.heap.size, 10, none⟩) la).trans a10
      replace d10 := (hB.out.cell (p := ⟨w.heap.size + 1, 10, none⟩) lb).trans d10
      replace a11 := (hB.out.cell (p := ⟨w.heap.size, 11, none⟩) la).trans a11
      replace d11 := (hB.out.cell (p := ⟨w.heap.size + 1, 11, none⟩) lb).trans d11
      replace a12 := (hB.out.cell (p := ⟨w.heap.size, 12, none⟩) la).trans a12
      replace d12 := (hB.out.cell (p := ⟨w.heap.size + 1, 12, none⟩) lb).trans d12
      replace a13 := (hB.out.cell (p := ⟨w.heap.size, 13, none⟩) la).trans a13
      replace d13 := (hB.out.cell (p := ⟨w.heap.size + 1, 13, none⟩) lb).trans d13
      go_wp2_with fail
      go_ret
      exact ⟨rfl, HBW.out.trans (hB.out.mono HBW.out.size)⟩
end Go.Proofs.Ytdemkcnhcgiheaa
