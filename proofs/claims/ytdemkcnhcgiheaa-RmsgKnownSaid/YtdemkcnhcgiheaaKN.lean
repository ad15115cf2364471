/- The walk of RmsgKnown. No condition. -/
import Derived.Test.YtdemkcnhcgiheaaKL
import Derived.Deep.RegionHeld3
import Derived.Deep.OwnRows
import Derived.Deep.AppendLies
import Derived.OwnWalk
import Derived.Deep.CutBlock
namespace Go.Proofs.Ytdemkcnhcgiheaa
open Go.RowKit
theorem zero_cells (v : Value) : mgCells zeroM v = #[.int .i64 0, .int .i64 0, .int .i64 0, .int .u64 0, .int .u64 0, .int .u64 0, .int .u64 0, v, .bool false, .int .u64 0, .int .u64 0, .int .u64 0, .int .u64 0, .string ⟨#[]⟩] := by kernel_rfl
set_option maxRecDepth 100000 in
set_option maxHeartbeats 40000000 in
theorem known_any (w : World) : Calls Try.prog 7 #[] w fun e w' => e = .returned (.bool true) ∧ Below w.heap.size w w' := by
  go_enter Try.func7, Try.ntmps7
  go_wp2_with fail
  have hk : KC w w.heap.size (w.heap.size + 1) (w.heap.size + 1 + 1) (w.heap.size + 1 + 1 + 1) ((((w.alloc (.cells #[.int .u64 2, .int .u64 5, .string ⟨#[97]⟩, .int .u64 3, .int .u64 6, .string ⟨#[]⟩] 34)).alloc (.cells #[.int .i64 3, .int .i64 6, .int .i64 0, .int .u64 3, .int .u64 4, .int .u64 2, .int .u64 4, .slice (some ⟨w.heap.size, 0, none⟩) 2 2, .bool false, .int .u64 0, .int .u64 0, .int .u64 0, .int .u64 0, .string ⟨#[]⟩] 27)).alloc (.cells #[.int .i64 7, .int .i64 1, .int .i64 2, .int .u64 9, .int .u64 0, .int .u64 0, .int .u64 0, .slice none 0 0, .bool false, .int .u64 0, .int .u64 0, .int .u64 5, .int .u64 9, .string ⟨#[115, 116, 97, 116, 101]⟩] 27)).alloc (.cells #[.int .i64 2, .int .i64 1, .int .i64 2, .int .u64 1099511627776, .int .u64 0, .int .u64 0, .int .u64 0, .slice none 0 0, .bool true, .int .u64 1099511627776, .int .u64 1099511627776, .int .u64 0, .int .u64 0, .string ⟨#[]⟩] 27)) := by
    have h1 := blk_new w (.cells #[.int .u64 2, .int .u64 5, .string ⟨#[97]⟩, .int .u64 3, .int .u64 6, .string ⟨#[]⟩] 34 (0, 0))
    have h2 := blk_new (w.alloc (.cells #[.int .u64 2, .int .u64 5, .string ⟨#[97]⟩, .int .u64 3, .int .u64 6, .string ⟨#[]⟩] 34)) (.cells #[.int .i64 3, .int .i64 6, .int .i64 0, .int .u64 3, .int .u64 4, .int .u64 2, .int .u64 4, .slice (some ⟨w.heap.size, 0, none⟩) 2 2, .bool false, .int .u64 0, .int .u64 0, .int .u64 0, .int .u64 0, .string ⟨#[]⟩] 27 (0, 0))
    have h3 := blk_new ((w.alloc (.cells #[.int .u64 2, .int .u64 5, .string ⟨#[97]⟩, .int .u64 3, .int .u64 6, .string ⟨#[]⟩] 34)).alloc (.cells #[.int .i64 3, .int .i64 6, .int .i64 0, .int .u64 3, .int .u64 4, .int .u64 2, .int .u64 4, .slice (some ⟨w.heap.size, 0, none⟩) 2 2, .bool false, .int .u64 0, .int .u64 0, .int .u64 0, .int .u64 0, .string ⟨#[]⟩] 27)) (.cells #[.int .i64 7, .int .i64 1, .int .i64 2, .int .u64 9, .int .u64 0, .int .u64 0, .int .u64 0, .slice none 0 0, .bool false, .int .u64 0, .int .u64 0, .int .u64 5, .int .u64 9, .string ⟨#[115, 116, 97, 116, 101]⟩] 27 (0, 0))
    have h4 := blk_new (((w.alloc (.cells #[.int .u64 2, .int .u64 5, .string ⟨#[97]⟩, .int .u64 3, .int .u64 6, .string ⟨#[]⟩] 34)).alloc (.cells #[.int .i64 3, .int .i64 6, .int .i64 0, .int .u64 3, .int .u64 4, .int .u64 2, .int .u64 4, .slice (some ⟨w.heap.size, 0, none⟩) 2 2, .bool false, .int .u64 0, .int .u64 0, .int .u64 0, .int .u64 0, .string ⟨#[]⟩] 27)).alloc (.cells #[.int .i64 7, .int .i64 1, .int .i64 2, .int .u64 9, .int .u64 0, .int .u64 0, .int .u64 0, .slice none 0 0, .bool false, .int .u64 0, .int .u64 0, .int .u64 5, .int .u64 9, .string ⟨#[115, 116, 97, 116, 101]⟩] 27)) (.cells #[.int .i64 2, .int .i64 1, .int .i64 2, .int .u64 1099511627776, .int .u64 0, .int .u64 0, .int .u64 0, .slice none 0 0, .bool true, .int .u64 1099511627776, .int .u64 1099511627776, .int .u64 0, .int .u64 0, .string ⟨#[]⟩] 27 (0, 0))
    rw [World.size_alloc] at h2
    rw [World.size_alloc, World.size_alloc] at h3
    rw [World.size_alloc, World.size_alloc, World.size_alloc] at h4
    refine ⟨blk_alloc (blk_alloc (blk_alloc h1 _) _) _, blk_alloc (blk_alloc h2 _) _, blk_alloc h3 _, h4, ?_⟩
    refine ((((Below.refl _ w).alloc (Nat.le_refl _) _).alloc ?_ _).alloc ?_ _).alloc ?_ _
    · rw [World.size_alloc]; omega
    · rw [World.size_alloc, World.size_alloc]; omega
    · rw [World.size_alloc, World.size_alloc, World.size_alloc]; omega
  obtain ⟨E, hE⟩ : ∃ E, E = w.heap.size := ⟨_, rfl⟩
  rw [← hE] at hk ⊢
  obtain ⟨c, hc⟩ : ∃ c, c = E + 1 + 1 + 1 := ⟨_, rfl⟩
  rw [← hc] at hk ⊢
  obtain ⟨b, hb⟩ : ∃ b, b = E + 1 + 1 := ⟨_, rfl⟩
  rw [← hb] at hk ⊢
  obtain ⟨a, ha⟩ : ∃ a, a = E + 1 := ⟨_, rfl⟩
  rw [← ha] at hk ⊢
  clear hE hc hb ha
  generalize hW : World.alloc (World.alloc (World.alloc (World.alloc w _) _) _) _ = W4 at hk ⊢
  clear hW
  have HK := Lib.hid hk
  clear hk
  have a0 : ∀ W, KC w E a b c W → W.cell? ⟨a, 0, none⟩ = some (.int .i64 3) := fun W h => blk_cell h.a 0
  have a1 : ∀ W, KC w E a b c W → W.cell? ⟨a, 1, none⟩ = some (.int .i64 6) := fun W h => blk_cell h.a 1
  have a2 : ∀ W, KC w E a b c W → W.cell? ⟨a, 2, none⟩ = some (.int .i64 0) := fun W h => blk_cell h.a 2
  have a3 : ∀ W, KC w E a b c W → W.cell? ⟨a, 3, none⟩ = some (.int .u64 3) := fun W h => blk_cell h.a 3
  have a4 : ∀ W, KC w E a b c W → W.cell? ⟨a, 4, none⟩ = some (.int .u64 4) := fun W h => blk_cell h.a 4
  have a5 : ∀ W, KC w E a b c W → W.cell? ⟨a, 5, none⟩ = some (.int .u64 2) := fun W h => blk_cell h.a 5
  have a6 : ∀ W, KC w E a b c W → W.cell? ⟨a, 6, none⟩ = some (.int .u64 4) := fun W h => blk_cell h.a 6
  have a7 : ∀ W, KC w E a b c W → W.cell? ⟨a, 7, none⟩ = some (.slice (some ⟨E, 0, none⟩) 2 2) := fun W h => blk_cell h.a 7
  have a8 : ∀ W, KC w E a b c W → W.cell? ⟨a, 8, none⟩ = some (.bool false) := fun W h => blk_cell h.a 8
  have a9 : ∀ W, KC w E a b c W → W.cell? ⟨a, 9, none⟩ = some (.int .u64 0) := fun W h => blk_cell h.a 9
  have a10 : ∀ W, KC w E a b c W → W.cell? ⟨a, 10, none⟩ = some (.int .u64 0) := fun W h => blk_cell h.a 10
  have a11 : ∀ W, KC w E a b c W → W.cell? ⟨a, 11, none⟩ = some (.int .u64 0) := fun W h => blk_cell h.a 11
  have a12 : ∀ W, KC w E a b c W → W.cell? ⟨a, 12, none⟩ = some (.int .u64 0) := fun W h => blk_cell h.a 12
  have a13 : ∀ W, KC w E a b c W → W.cell? ⟨a, 13, none⟩ = some (.string ⟨#[]⟩) := fun W h => blk_cell h.a 13
  have b0 : ∀ W, KC w E a b c W → W.cell? ⟨b, 0, none⟩ = some (.int .i64 7) := fun W h => blk_cell h.b 0
  have b1 : ∀ W, KC w E a b c W → W.cell? ⟨b, 1, none⟩ = some (.int .i64 1) := fun W h => blk_cell h.b 1
  have b2 : ∀ W, KC w E a b c W → W.cell? ⟨b, 2, none⟩ = some (.int .i64 2) := fun W h => blk_cell h.b 2
  have b3 : ∀ W, KC w E a b c W → W.cell? ⟨b, 3, none⟩ = some (.int .u64 9) := fun W h => blk_cell h.b 3
  have b4 : ∀ W, KC w E a b c W → W.cell? ⟨b, 4, none⟩ = some (.int .u64 0) := fun W h => blk_cell h.b 4
  have b5 : ∀ W, KC w E a b c W → W.cell? ⟨b, 5, none⟩ = some (.int .u64 0) := fun W h => blk_cell h.b 5
  have b6 : ∀ W, KC w E a b c W → W.cell? ⟨b, 6, none⟩ = some (.int .u64 0) := fun W h => blk_cell h.b 6
  have b7 : ∀ W, KC w E a b c W → W.cell? ⟨b, 7, none⟩ = some (.slice none 0 0) := fun W h => blk_cell h.b 7
  have b8 : ∀ W, KC w E a b c W → W.cell? ⟨b, 8, none⟩ = some (.bool false) := fun W h => blk_cell h.b 8
  have b9 : ∀ W, KC w E a b c W → W.cell? ⟨b, 9, none⟩ = some (.int .u64 0) := fun W h => blk_cell h.b 9
  have b10 : ∀ W, KC w E a b c W → W.cell? ⟨b, 10, none⟩ = some (.int .u64 0) := fun W h => blk_cell h.b 10
  have b11 : ∀ W, KC w E a b c W → W.cell? ⟨b, 11, none⟩ = some (.int .u64 5) := fun W h => blk_cell h.b 11
  have b12 : ∀ W, KC w E a b c W → W.cell? ⟨b, 12, none⟩ = some (.int .u64 9) := fun W h => blk_cell h.b 12
  have b13 : ∀ W, KC w E a b c W → W.cell? ⟨b, 13, none⟩ = some (.string ⟨#[115, 116, 97, 116, 101]⟩) := fun W h => blk_cell h.b 13
  have c0 : ∀ W, KC w E a b c W → W.cell? ⟨c, 0, none⟩ = some (.int .i64 2) := fun W h => blk_cell h.c 0
  have c1 : ∀ W, KC w E a b c W → W.cell? ⟨c, 1, none⟩ = some (.int .i64 1) := fun W h => blk_cell h.c 1
  have c2 : ∀ W, KC w E a b c W → W.cell? ⟨c, 2, none⟩ = some (.int .i64 2) := fun W h => blk_cell h.c 2
  have c3 : ∀ W, KC w E a b c W → W.cell? ⟨c, 3, none⟩ = some (.int .u64 1099511627776) := fun W h => blk_cell h.c 3
  have c4 : ∀ W, KC w E a b c W → W.cell? ⟨c, 4, none⟩ = some (.int .u64 0) := fun W h => blk_cell h.c 4
  have c5 : ∀ W, KC w E a b c W → W.cell? ⟨c, 5, none⟩ = some (.int .u64 0) := fun W h => blk_cell h.c 5
  have c6 : ∀ W, KC w E a b c W → W.cell? ⟨c, 6, none⟩ = some (.int .u64 0) := fun W h => blk_cell h.c 6
  have c7 : ∀ W, KC w E a b c W → W.cell? ⟨c, 7, none⟩ = some (.slice none 0 0) := fun W h => blk_cell h.c 7
  have c8 : ∀ W, KC w E a b c W → W.cell? ⟨c, 8, none⟩ = some (.bool true) := fun W h => blk_cell h.c 8
  have c9 : ∀ W, KC w E a b c W → W.cell? ⟨c, 9, none⟩ = some (.int .u64 1099511627776) := fun W h => blk_cell h.c 9
  have c10 : ∀ W, KC w E a b c W → W.cell? ⟨c, 10, none⟩ = some (.int .u64 1099511627776) := fun W h => blk_cell h.c 10
  have c11 : ∀ W, KC w E a b c W → W.cell? ⟨c, 11, none⟩ = some (.int .u64 0) := fun W h => blk_cell h.c 11
  have c12 : ∀ W, KC w E a b c W → W.cell? ⟨c, 12, none⟩ = some (.int .u64 0) := fun W h => blk_cell h.c 12
  have c13 : ∀ W, KC w E a b c W → W.cell? ⟨c, 13, none⟩ = some (.string ⟨#[]⟩) := fun W h => blk_cell h.c 13
  go_region_held3 (fun W => KC w E a b c W)
    (first | exact HK.out.drew | exact K1.out.alloc _ | exact K1.out)
    (first
      | (go_at_call 22
         refine (beat_any W4.drew).mono ?_
         rintro e w1 ⟨rfl, hb1⟩
         rw [beat_cells]
         have K1 := Lib.hid (HK.out.drew.step hb1)
         clear hb1))
  clear a0 a1 a2 a3 a4 a5 a6 a7 a8 a9 a10 a11 a12 a13 b0 b1 b2 b3 b4 b5 b6 b7 b8 b9 b10 b11 b12 b13 c0 c1 c2 c3 c4 c5 c6 c7 c8 c9 c10 c11 c12 c13
  have hl : (w1.alloc (.cells #[.int .i64 3, .int .i64 6, .int .i64 0, .int .u64 3, .int .u64 4, .int .u64 2, .int .u64 4, .slice (some ⟨E, 0, none⟩) 2 2, .bool false, .int .u64 0, .int .u64 0, .int .u64 0, .int .u64 0, .string ⟨#[]⟩, .int .i64 7, .int .i64 1, .int .i64 2, .int .u64 9, .int .u64 0, .int .u64 0, .int .u64 0, .slice none 0 0, .bool false, .int .u64 0, .int .u64 0, .int .u64 5, .int .u64 9, .string ⟨#[115, 116, 97, 116, 101]⟩, .int .i64 2, .int .i64 1, .int .i64 2, .int .u64 1099511627776, .int .u64 0, .int .u64 0, .int .u64 0, .slice none 0 0, .bool true, .int .u64 1099511627776, .int .u64 1099511627776, .int .u64 0, .int .u64 0, .string ⟨#[]⟩, .int .i64 5, .int .i64 0, .int .i64 1, .int .u64 2, .int .u64 0, .int .u64 0, .int .u64 3, .slice none 0 0, .bool false, .int .u64 0, .int .u64 0, .int .u64 0, .int .u64 0, .string ⟨#[]⟩] 27)).heap[w1.heap.size]? = some (.cells (four E) 27 (0, 0)) := blk_new w1 _
  have hk5 : KC w E a b c (w1.alloc (.cells #[.int .i64 3, .int .i64 6, .int .i64 0, .int .u64 3, .int .u64 4, .int .u64 2, .int .u64 4, .slice (some ⟨E, 0, none⟩) 2 2, .bool false, .int .u64 0, .int .u64 0, .int .u64 0, .int .u64 0, .string ⟨#[]⟩, .int .i64 7, .int .i64 1, .int .i64 2, .int .u64 9, .int .u64 0, .int .u64 0, .int .u64 0, .slice none 0 0, .bool false, .int .u64 0, .int .u64 0, .int .u64 5, .int .u64 9, .string ⟨#[115, 116, 97, 116, 101]⟩, .int .i64 2, .int .i64 1, .int .i64 2, .int .u64 1099511627776, .int .u64 0, .int .u64 0, .int .u64 0, .slice none 0 0, .bool true, .int .u64 1099511627776, .int .u64 1099511627776, .int .u64 0, .int .u64 0, .string ⟨#[]⟩, .int .i64 5, .int .i64 0, .int .i64 1, .int .u64 2, .int .u64 0, .int .u64 0, .int .u64 3, .slice none 0 0, .bool false, .int .u64 0, .int .u64 0, .int .u64 0, .int .u64 0, .string ⟨#[]⟩] 27)) := K1.out.alloc _
  obtain ⟨L, hL⟩ : ∃ L, L = w1.heap.size := ⟨_, rfl⟩
  rw [← hL] at hl ⊢
  generalize hW : World.alloc w1 _ = W5 at hl hk5 ⊢
  clear hW hL K1 HK W4
  have HL := Lib.hid hl
  have HK := Lib.hid hk5
  clear hl hk5
  go_wp2_with fail
  go_loopw [39] (fun i W => ∃ k : Nat, k ≤ 4 ∧ i = .int .i64 k ∧ Hid (W.heap[L]? = some (.cells (four E) 27 (0, 0))) ∧ Hid (KC w E a b c W)) (fun i _ => 4 - (intOf i).toNat)
  case atStart => exact ⟨0, by decide, rfl, HL.out, HK.out⟩
  case round =>
    obtain ⟨k, hk, rfl, HLr, HKr⟩ := hrel
    clear HL HK
    by_cases hlt : k < 4
    · have h4 : k = 0 ∨ k = 1 ∨ k = 2 ∨ k = 3 := by omega
      rcases h4 with rfl | rfl | rfl | rfl
      · as_aux_lemma =>
        rw [show (((0 : Nat)) : Int) = 0 from rfl]
        have l0 : wr.cell? ⟨L, 0, none⟩ = some (.int .i64 3) := blk_cell HLr.out 0
        have l1 : wr.cell? ⟨L, 1, none⟩ = some (.int .i64 6) := blk_cell HLr.out 1
        have l2 : wr.cell? ⟨L, 2, none⟩ = some (.int .i64 0) := blk_cell HLr.out 2
        have l3 : wr.cell? ⟨L, 3, none⟩ = some (.int .u64 3) := blk_cell HLr.out 3
        have l4 : wr.cell? ⟨L, 4, none⟩ = some (.int .u64 4) := blk_cell HLr.out 4
        have l5 : wr.cell? ⟨L, 5, none⟩ = some (.int .u64 2) := blk_cell HLr.out 5
        have l6 : wr.cell? ⟨L, 6, none⟩ = some (.int .u64 4) := blk_cell HLr.out 6
        have l7 : wr.cell? ⟨L, 7, none⟩ = some (.slice (some ⟨E, 0, none⟩) 2 2) := blk_cell HLr.out 7
        have l8 : wr.cell? ⟨L, 8, none⟩ = some (.bool false) := blk_cell HLr.out 8
        have l9 : wr.cell? ⟨L, 9, none⟩ = some (.int .u64 0) := blk_cell HLr.out 9
        have l10 : wr.cell? ⟨L, 10, none⟩ = some (.int .u64 0) := blk_cell HLr.out 10
        have l11 : wr.cell? ⟨L, 11, none⟩ = some (.int .u64 0) := blk_cell HLr.out 11
        have l12 : wr.cell? ⟨L, 12, none⟩ = some (.int .u64 0) := blk_cell HLr.out 12
        have l13 : wr.cell? ⟨L, 13, none⟩ = some (.string ⟨#[]⟩) := blk_cell HLr.out 13
        go_wp2_with fail
        clear l0 l1 l2 l3 l4 l5 l6 l7 l8 l9 l10 l11 l12 l13
        have hm := blk_new wr (.cells #[.int .i64 3, .int .i64 6, .int .i64 0, .int .u64 3, .int .u64 4, .int .u64 2, .int .u64 4, .slice (some ⟨E, 0, none⟩) 2 2, .bool false, .int .u64 0, .int .u64 0, .int .u64 0, .int .u64 0, .string ⟨#[]⟩] 27 (0, 0))
        have hk1 := HKr.out.alloc (.cells #[.int .i64 3, .int .i64 6, .int .i64 0, .int .u64 3, .int .u64 4, .int .u64 2, .int .u64 4, .slice (some ⟨E, 0, none⟩) 2 2, .bool false, .int .u64 0, .int .u64 0, .int .u64 0, .int .u64 0, .string ⟨#[]⟩] 27)
        have hl1 := blk_alloc HLr.out (.cells #[.int .i64 3, .int .i64 6, .int .i64 0, .int .u64 3, .int .u64 4, .int .u64 2, .int .u64 4, .slice (some ⟨E, 0, none⟩) 2 2, .bool false, .int .u64 0, .int .u64 0, .int .u64 0, .int .u64 0, .string ⟨#[]⟩] 27)
        obtain ⟨M, hM⟩ : ∃ M, M = wr.heap.size := ⟨_, rfl⟩
        rw [← hM] at hm ⊢
        clear hM
        generalize hW : World.alloc wr _ = W6 at hm hk1 hl1 ⊢
        clear hW
        have M6 := Lib.hid hm
        have K6 := Lib.hid hk1
        have L6 := Lib.hid hl1
        clear hm hk1 hl1
        refine (encode_any appM (.slice (some ⟨E, 0, none⟩) 2 2) W6 app_fit (fun _ => app_small) (K6.out.ents)).mono ?_
        rintro e w7 ⟨rfl, hb7⟩
        have M7 := Lib.hid (blk_below hb7 (blk_lt M6.out) M6.out)
        have K7 := Lib.hid (K6.out.step hb7)
        have L7 := Lib.hid (blk_below hb7 (blk_lt L6.out) L6.out)
        clear hb7 M6 K6 L6
        rw [show encE appM = 0 from if_pos app_check]
        obtain ⟨S, hS⟩ : ∃ S, S = encB appM := ⟨_, rfl⟩
        have hSf : Fine S := hS ▸ fine_enc app_fit app_small app_check
        have hSd : decB S = (appM, 0) := hS ▸ dec_enc app_fit app_check
        rw [← hS]
        have HSF := Lib.hid hSf
        have HSD := Lib.hid hSd
        clear hS hSf hSd
        go_wp2_with fail
        refine (decode_any S w7 HSF.out).mono ?_
        rintro e w8 ⟨v, rfl, hv, hb8⟩
        rw [HSD.out] at hv ⊢
        obtain ⟨A, cap, rfl, -⟩ := hv.form2
        have M8 := Lib.hid (blk_below hb8 (blk_lt M7.out) M7.out)
        have K8 := Lib.hid (K7.out.step hb8)
        have L8 := Lib.hid (blk_below hb8 (blk_lt L7.out) L7.out)
        have V8 := Lib.hid hv
        clear hb8 M7 K7 L7 hv
        obtain ⟨U, hU⟩ : ∃ U, U = Value.slice A (appM).es.length cap := ⟨_, rfl⟩
        dsimp only at hU V8 ⊢
        have hMlt := blk_lt M8.out
        have l0 : w8.cell? ⟨M, 0, none⟩ = some (.int .i64 3) := blk_cell M8.out 0
        have l1 : w8.cell? ⟨M, 1, none⟩ = some (.int .i64 6) := blk_cell M8.out 1
        have l2 : w8.cell? ⟨M, 2, none⟩ = some (.int .i64 0) := blk_cell M8.out 2
        have l3 : w8.cell? ⟨M, 3, none⟩ = some (.int .u64 3) := blk_cell M8.out 3
        have l4 : w8.cell? ⟨M, 4, none⟩ = some (.int .u64 4) := blk_cell M8.out 4
        have l5 : w8.cell? ⟨M, 5, none⟩ = some (.int .u64 2) := blk_cell M8.out 5
        have l6 : w8.cell? ⟨M, 6, none⟩ = some (.int .u64 4) := blk_cell M8.out 6
        have l7 : w8.cell? ⟨M, 7, none⟩ = some (.slice (some ⟨E, 0, none⟩) 2 2) := blk_cell M8.out 7
        have l8 : w8.cell? ⟨M, 8, none⟩ = some (.bool false) := blk_cell M8.out 8
        have l9 : w8.cell? ⟨M, 9, none⟩ = some (.int .u64 0) := blk_cell M8.out 9
        have l10 : w8.cell? ⟨M, 10, none⟩ = some (.int .u64 0) := blk_cell M8.out 10
        have l11 : w8.cell? ⟨M, 11, none⟩ = some (.int .u64 0) := blk_cell M8.out 11
        have l12 : w8.cell? ⟨M, 12, none⟩ = some (.int .u64 0) := blk_cell M8.out 12
        have l13 : w8.cell? ⟨M, 13, none⟩ = some (.string ⟨#[]⟩) := blk_cell M8.out 13
        clear hU U
        rw [appM_cells]
        go_wp2_with fail
        clear l0 l1 l2 l3 l4 l5 l6 l7 l8 l9 l10 l11 l12 l13
        have hal := (Below.refl w8.heap.size w8).alloc (Nat.le_refl _) (.cells #[.int .i64 3, .int .i64 6, .int .i64 0, .int .u64 3, .int .u64 4, .int .u64 2, .int .u64 4, (.slice A (appM).es.length cap), .bool false, .int .u64 0, .int .u64 0, .int .u64 0, .int .u64 0, .string ⟨#[]⟩] 27 (0, 0))
        have K9 := K8.out.step hal
        have L9 := blk_below hal (blk_lt L8.out) L8.out
        have V9 := V8.out.below hal (Nat.le_refl _)
        generalize hW : World.alloc w8 _ = W9 at K9 L9 V9 ⊢
        clear hW hal K8 L8 V8 M8
        have K9 := Lib.hid K9
        have L9 := Lib.hid L9
        have V9 := Lib.hid V9
        refine (same_any appM (.slice A appM.es.length cap) (.slice (some ⟨E, 0, none⟩) 2 2) W9 (by decide) V9.out (K9.out.ents)).mono ?_
        rintro e w10 ⟨rfl, hb10⟩
        have K10 := Lib.hid (K9.out.step hb10)
        have L10 := Lib.hid (blk_below hb10 (blk_lt L9.out) L9.out)
        clear hb10
        go_wp2_with fail
        exact ⟨⟨1, by decide, rfl, L10.out, K10.out⟩, by decide⟩
      · as_aux_lemma =>
        rw [show (((1 : Nat)) : Int) = 1 from rfl]
        have l0 : wr.cell? ⟨L, 14, none⟩ = some (.int .i64 7) := blk_cell HLr.out 14
        have l1 : wr.cell? ⟨L, 15, none⟩ = some (.int .i64 1) := blk_cell HLr.out 15
        have l2 : wr.cell? ⟨L, 16, none⟩ = some (.int .i64 2) := blk_cell HLr.out 16
        have l3 : wr.cell? ⟨L, 17, none⟩ = some (.int .u64 9) := blk_cell HLr.out 17
        have l4 : wr.cell? ⟨L, 18, none⟩ = some (.int .u64 0) := blk_cell HLr.out 18
        have l5 : wr.cell? ⟨L, 19, none⟩ = some (.int .u64 0) := blk_cell HLr.out 19
        have l6 : wr.cell? ⟨L, 20, none⟩ = some (.int .u64 0) := blk_cell HLr.out 20
        have l7 : wr.cell? ⟨L, 21, none⟩ = some (.slice none 0 0) := blk_cell HLr.out 21
        have l8 : wr.cell? ⟨L, 22, none⟩ = some (.bool false) := blk_cell HLr.out 22
        have l9 : wr.cell? ⟨L, 23, none⟩ = some (.int .u64 0) := blk_cell HLr.out 23
        have l10 : wr.cell? ⟨L, 24, none⟩ = some (.int .u64 0) := blk_cell HLr.out 24
        have l11 : wr.cell? ⟨L, 25, none⟩ = some (.int .u64 5) := blk_cell HLr.out 25
        have l12 : wr.cell? ⟨L, 26, none⟩ = some (.int .u64 9) := blk_cell HLr.out 26
        have l13 : wr.cell? ⟨L, 27, none⟩ = some (.string ⟨#[115, 116, 97, 116, 101]⟩) := blk_cell HLr.out 27
        go_wp2_with fail
        clear l0 l1 l2 l3 l4 l5 l6 l7 l8 l9 l10 l11 l12 l13
        have hm := blk_new wr (.cells #[.int .i64 7, .int .i64 1, .int .i64 2, .int .u64 9, .int .u64 0, .int .u64 0, .int .u64 0, .slice none 0 0, .bool false, .int .u64 0, .int .u64 0, .int .u64 5, .int .u64 9, .string ⟨#[115, 116, 97, 116, 101]⟩] 27 (0, 0))
        have hk1 := HKr.out.alloc (.cells #[.int .i64 7, .int .i64 1, .int .i64 2, .int .u64 9, .int .u64 0, .int .u64 0, .int .u64 0, .slice none 0 0, .bool false, .int .u64 0, .int .u64 0, .int .u64 5, .int .u64 9, .string ⟨#[115, 116, 97, 116, 101]⟩] 27)
        have hl1 := blk_alloc HLr.out (.cells #[.int .i64 7, .int .i64 1, .int .i64 2, .int .u64 9, .int .u64 0, .int .u64 0, .int .u64 0, .slice none 0 0, .bool false, .int .u64 0, .int .u64 0, .int .u64 5, .int .u64 9, .string ⟨#[115, 116, 97, 116, 101]⟩] 27)
        obtain ⟨M, hM⟩ : ∃ M, M = wr.heap.size := ⟨_, rfl⟩
        rw [← hM] at hm ⊢
        clear hM
        generalize hW : World.alloc wr _ = W6 at hm hk1 hl1 ⊢
        clear hW
        have M6 := Lib.hid hm
        have K6 := Lib.hid hk1
        have L6 := Lib.hid hl1
        clear hm hk1 hl1
        refine (encode_any snapM (.slice none 0 0) W6 snap_fit (fun _ => snap_small) (EntsAt.nil _)).mono ?_
        rintro e w7 ⟨rfl, hb7⟩
        have M7 := Lib.hid (blk_below hb7 (blk_lt M6.out) M6.out)
        have K7 := Lib.hid (K6.out.step hb7)
        have L7 := Lib.hid (blk_below hb7 (blk_lt L6.out) L6.out)
        clear hb7 M6 K6 L6
        rw [show encE snapM = 0 from if_pos snap_check]
        obtain ⟨S, hS⟩ : ∃ S, S = encB snapM := ⟨_, rfl⟩
        have hSf : Fine S := hS ▸ fine_enc snap_fit snap_small snap_check
        have hSd : decB S = (snapM, 0) := hS ▸ dec_enc snap_fit snap_check
        rw [← hS]
        have HSF := Lib.hid hSf
        have HSD := Lib.hid hSd
        clear hS hSf hSd
        go_wp2_with fail
        refine (decode_any S w7 HSF.out).mono ?_
        rintro e w8 ⟨v, rfl, hv, hb8⟩
        rw [HSD.out] at hv ⊢
        obtain ⟨A, cap, rfl, -⟩ := hv.form2
        have M8 := Lib.hid (blk_below hb8 (blk_lt M7.out) M7.out)
        have K8 := Lib.hid (K7.out.step hb8)
        have L8 := Lib.hid (blk_below hb8 (blk_lt L7.out) L7.out)
        have V8 := Lib.hid hv
        clear hb8 M7 K7 L7 hv
        obtain ⟨U, hU⟩ : ∃ U, U = Value.slice A (snapM).es.length cap := ⟨_, rfl⟩
        dsimp only at hU V8 ⊢
        have hMlt := blk_lt M8.out
        have l0 : w8.cell? ⟨M, 0, none⟩ = some (.int .i64 7) := blk_cell M8.out 0
        have l1 : w8.cell? ⟨M, 1, none⟩ = some (.int .i64 1) := blk_cell M8.out 1
        have l2 : w8.cell? ⟨M, 2, none⟩ = some (.int .i64 2) := blk_cell M8.out 2
        have l3 : w8.cell? ⟨M, 3, none⟩ = some (.int .u64 9) := blk_cell M8.out 3
        have l4 : w8.cell? ⟨M, 4, none⟩ = some (.int .u64 0) := blk_cell M8.out 4
        have l5 : w8.cell? ⟨M, 5, none⟩ = some (.int .u64 0) := blk_cell M8.out 5
        have l6 : w8.cell? ⟨M, 6, none⟩ = some (.int .u64 0) := blk_cell M8.out 6
        have l7 : w8.cell? ⟨M, 7, none⟩ = some (.slice none 0 0) := blk_cell M8.out 7
        have l8 : w8.cell? ⟨M, 8, none⟩ = some (.bool false) := blk_cell M8.out 8
        have l9 : w8.cell? ⟨M, 9, none⟩ = some (.int .u64 0) := blk_cell M8.out 9
        have l10 : w8.cell? ⟨M, 10, none⟩ = some (.int .u64 0) := blk_cell M8.out 10
        have l11 : w8.cell? ⟨M, 11, none⟩ = some (.int .u64 5) := blk_cell M8.out 11
        have l12 : w8.cell? ⟨M, 12, none⟩ = some (.int .u64 9) := blk_cell M8.out 12
        have l13 : w8.cell? ⟨M, 13, none⟩ = some (.string ⟨#[115, 116, 97, 116, 101]⟩) := blk_cell M8.out 13
        clear hU U
        rw [snapM_cells]
        go_wp2_with fail
        clear l0 l1 l2 l3 l4 l5 l6 l7 l8 l9 l10 l11 l12 l13
        have hal := (Below.refl w8.heap.size w8).alloc (Nat.le_refl _) (.cells #[.int .i64 7, .int .i64 1, .int .i64 2, .int .u64 9, .int .u64 0, .int .u64 0, .int .u64 0, (.slice A (snapM).es.length cap), .bool false, .int .u64 0, .int .u64 0, .int .u64 5, .int .u64 9, .string ⟨#[115, 116, 97, 116, 101]⟩] 27 (0, 0))
        have K9 := K8.out.step hal
        have L9 := blk_below hal (blk_lt L8.out) L8.out
        have V9 := V8.out.below hal (Nat.le_refl _)
        generalize hW : World.alloc w8 _ = W9 at K9 L9 V9 ⊢
        clear hW hal K8 L8 V8 M8
        have K9 := Lib.hid K9
        have L9 := Lib.hid L9
        have V9 := Lib.hid V9
        refine (same_any snapM (.slice A snapM.es.length cap) (.slice none 0 0) W9 (by decide) V9.out (EntsAt.nil _)).mono ?_
        rintro e w10 ⟨rfl, hb10⟩
        have K10 := Lib.hid (K9.out.step hb10)
        have L10 := Lib.hid (blk_below hb10 (blk_lt L9.out) L9.out)
        clear hb10
        go_wp2_with fail
        exact ⟨⟨2, by decide, rfl, L10.out, K10.out⟩, by decide⟩
      · as_aux_lemma =>
        rw [show (((2 : Nat)) : Int) = 2 from rfl]
        have l0 : wr.cell? ⟨L, 28, none⟩ = some (.int .i64 2) := blk_cell HLr.out 28
        have l1 : wr.cell? ⟨L, 29, none⟩ = some (.int .i64 1) := blk_cell HLr.out 29
        have l2 : wr.cell? ⟨L, 30, none⟩ = some (.int .i64 2) := blk_cell HLr.out 30
        have l3 : wr.cell? ⟨L, 31, none⟩ = some (.int .u64 1099511627776) := blk_cell HLr.out 31
        have l4 : wr.cell? ⟨L, 32, none⟩ = some (.int .u64 0) := blk_cell HLr.out 32
        have l5 : wr.cell? ⟨L, 33, none⟩ = some (.int .u64 0) := blk_cell HLr.out 33
        have l6 : wr.cell? ⟨L, 34, none⟩ = some (.int .u64 0) := blk_cell HLr.out 34
        have l7 : wr.cell? ⟨L, 35, none⟩ = some (.slice none 0 0) := blk_cell HLr.out 35
        have l8 : wr.cell? ⟨L, 36, none⟩ = some (.bool true) := blk_cell HLr.out 36
        have l9 : wr.cell? ⟨L, 37, none⟩ = some (.int .u64 1099511627776) := blk_cell HLr.out 37
        have l10 : wr.cell? ⟨L, 38, none⟩ = some (.int .u64 1099511627776) := blk_cell HLr.out 38
        have l11 : wr.cell? ⟨L, 39, none⟩ = some (.int .u64 0) := blk_cell HLr.out 39
        have l12 : wr.cell? ⟨L, 40, none⟩ = some (.int .u64 0) := blk_cell HLr.out 40
        have l13 : wr.cell? ⟨L, 41, none⟩ = some (.string ⟨#[]⟩) := blk_cell HLr.out 41
        go_wp2_with fail
        clear l0 l1 l2 l3 l4 l5 l6 l7 l8 l9 l10 l11 l12 l13
        have hm := blk_new wr (.cells #[.int .i64 2, .int .i64 1, .int .i64 2, .int .u64 1099511627776, .int .u64 0, .int .u64 0, .int .u64 0, .slice none 0 0, .bool true, .int .u64 1099511627776, .int .u64 1099511627776, .int .u64 0, .int .u64 0, .string ⟨#[]⟩] 27 (0, 0))
        have hk1 := HKr.out.alloc (.cells #[.int .i64 2, .int .i64 1, .int .i64 2, .int .u64 1099511627776, .int .u64 0, .int .u64 0, .int .u64 0, .slice none 0 0, .bool true, .int .u64 1099511627776, .int .u64 1099511627776, .int .u64 0, .int .u64 0, .string ⟨#[]⟩] 27)
        have hl1 := blk_alloc HLr.out (.cells #[.int .i64 2, .int .i64 1, .int .i64 2, .int .u64 1099511627776, .int .u64 0, .int .u64 0, .int .u64 0, .slice none 0 0, .bool true, .int .u64 1099511627776, .int .u64 1099511627776, .int .u64 0, .int .u64 0, .string ⟨#[]⟩] 27)
        obtain ⟨M, hM⟩ : ∃ M, M = wr.heap.size := ⟨_, rfl⟩
        rw [← hM] at hm ⊢
        clear hM
        generalize hW : World.alloc wr _ = W6 at hm hk1 hl1 ⊢
        clear hW
        have M6 := Lib.hid hm
        have K6 := Lib.hid hk1
        have L6 := Lib.hid hl1
        clear hm hk1 hl1
        refine (encode_any noM (.slice none 0 0) W6 no_fit (fun _ => no_small) (EntsAt.nil _)).mono ?_
        rintro e w7 ⟨rfl, hb7⟩
        have M7 := Lib.hid (blk_below hb7 (blk_lt M6.out) M6.out)
        have K7 := Lib.hid (K6.out.step hb7)
        have L7 := Lib.hid (blk_below hb7 (blk_lt L6.out) L6.out)
        clear hb7 M6 K6 L6
        rw [show encE noM = 0 from if_pos no_check]
        obtain ⟨S, hS⟩ : ∃ S, S = encB noM := ⟨_, rfl⟩
        have hSf : Fine S := hS ▸ fine_enc no_fit no_small no_check
        have hSd : decB S = (noM, 0) := hS ▸ dec_enc no_fit no_check
        rw [← hS]
        have HSF := Lib.hid hSf
        have HSD := Lib.hid hSd
        clear hS hSf hSd
        go_wp2_with fail
        refine (decode_any S w7 HSF.out).mono ?_
        rintro e w8 ⟨v, rfl, hv, hb8⟩
        rw [HSD.out] at hv ⊢
        obtain ⟨A, cap, rfl, -⟩ := hv.form2
        have M8 := Lib.hid (blk_below hb8 (blk_lt M7.out) M7.out)
        have K8 := Lib.hid (K7.out.step hb8)
        have L8 := Lib.hid (blk_below hb8 (blk_lt L7.out) L7.out)
        have V8 := Lib.hid hv
        clear hb8 M7 K7 L7 hv
        obtain ⟨U, hU⟩ : ∃ U, U = Value.slice A (noM).es.length cap := ⟨_, rfl⟩
        dsimp only at hU V8 ⊢
        have hMlt := blk_lt M8.out
        have l0 : w8.cell? ⟨M, 0, none⟩ = some (.int .i64 2) := blk_cell M8.out 0
        have l1 : w8.cell? ⟨M, 1, none⟩ = some (.int .i64 1) := blk_cell M8.out 1
        have l2 : w8.cell? ⟨M, 2, none⟩ = some (.int .i64 2) := blk_cell M8.out 2
        have l3 : w8.cell? ⟨M, 3, none⟩ = some (.int .u64 1099511627776) := blk_cell M8.out 3
        have l4 : w8.cell? ⟨M, 4, none⟩ = some (.int .u64 0) := blk_cell M8.out 4
        have l5 : w8.cell? ⟨M, 5, none⟩ = some (.int .u64 0) := blk_cell M8.out 5
        have l6 : w8.cell? ⟨M, 6, none⟩ = some (.int .u64 0) := blk_cell M8.out 6
        have l7 : w8.cell? ⟨M, 7, none⟩ = some (.slice none 0 0) := blk_cell M8.out 7
        have l8 : w8.cell? ⟨M, 8, none⟩ = some (.bool true) := blk_cell M8.out 8
        have l9 : w8.cell? ⟨M, 9, none⟩ = some (.int .u64 1099511627776) := blk_cell M8.out 9
        have l10 : w8.cell? ⟨M, 10, none⟩ = some (.int .u64 1099511627776) := blk_cell M8.out 10
        have l11 : w8.cell? ⟨M, 11, none⟩ = some (.int .u64 0) := blk_cell M8.out 11
        have l12 : w8.cell? ⟨M, 12, none⟩ = some (.int .u64 0) := blk_cell M8.out 12
        have l13 : w8.cell? ⟨M, 13, none⟩ = some (.string ⟨#[]⟩) := blk_cell M8.out 13
        clear hU U
        rw [noM_cells]
        go_wp2_with fail
        clear l0 l1 l2 l3 l4 l5 l6 l7 l8 l9 l10 l11 l12 l13
        have hal := (Below.refl w8.heap.size w8).alloc (Nat.le_refl _) (.cells #[.int .i64 2, .int .i64 1, .int .i64 2, .int .u64 1099511627776, .int .u64 0, .int .u64 0, .int .u64 0, (.slice A (noM).es.length cap), .bool true, .int .u64 1099511627776, .int .u64 1099511627776, .int .u64 0, .int .u64 0, .string ⟨#[]⟩] 27 (0, 0))
        have K9 := K8.out.step hal
        have L9 := blk_below hal (blk_lt L8.out) L8.out
        have V9 := V8.out.below hal (Nat.le_refl _)
        generalize hW : World.alloc w8 _ = W9 at K9 L9 V9 ⊢
        clear hW hal K8 L8 V8 M8
        have K9 := Lib.hid K9
        have L9 := Lib.hid L9
        have V9 := Lib.hid V9
        refine (same_any noM (.slice A noM.es.length cap) (.slice none 0 0) W9 (by decide) V9.out (EntsAt.nil _)).mono ?_
        rintro e w10 ⟨rfl, hb10⟩
        have K10 := Lib.hid (K9.out.step hb10)
        have L10 := Lib.hid (blk_below hb10 (blk_lt L9.out) L9.out)
        clear hb10
        go_wp2_with fail
        exact ⟨⟨3, by decide, rfl, L10.out, K10.out⟩, by decide⟩
      · as_aux_lemma =>
        rw [show (((3 : Nat)) : Int) = 3 from rfl]
        have l0 : wr.cell? ⟨L, 42, none⟩ = some (.int .i64 5) := blk_cell HLr.out 42
        have l1 : wr.cell? ⟨L, 43, none⟩ = some (.int .i64 0) := blk_cell HLr.out 43
        have l2 : wr.cell? ⟨L, 44, none⟩ = some (.int .i64 1) := blk_cell HLr.out 44
        have l3 : wr.cell? ⟨L, 45, none⟩ = some (.int .u64 2) := blk_cell HLr.out 45
        have l4 : wr.cell? ⟨L, 46, none⟩ = some (.int .u64 0) := blk_cell HLr.out 46
        have l5 : wr.cell? ⟨L, 47, none⟩ = some (.int .u64 0) := blk_cell HLr.out 47
        have l6 : wr.cell? ⟨L, 48, none⟩ = some (.int .u64 3) := blk_cell HLr.out 48
        have l7 : wr.cell? ⟨L, 49, none⟩ = some (.slice none 0 0) := blk_cell HLr.out 49
        have l8 : wr.cell? ⟨L, 50, none⟩ = some (.bool false) := blk_cell HLr.out 50
        have l9 : wr.cell? ⟨L, 51, none⟩ = some (.int .u64 0) := blk_cell HLr.out 51
        have l10 : wr.cell? ⟨L, 52, none⟩ = some (.int .u64 0) := blk_cell HLr.out 52
        have l11 : wr.cell? ⟨L, 53, none⟩ = some (.int .u64 0) := blk_cell HLr.out 53
        have l12 : wr.cell? ⟨L, 54, none⟩ = some (.int .u64 0) := blk_cell HLr.out 54
        have l13 : wr.cell? ⟨L, 55, none⟩ = some (.string ⟨#[]⟩) := blk_cell HLr.out 55
        go_wp2_with fail
        clear l0 l1 l2 l3 l4 l5 l6 l7 l8 l9 l10 l11 l12 l13
        have hm := blk_new wr (.cells #[.int .i64 5, .int .i64 0, .int .i64 1, .int .u64 2, .int .u64 0, .int .u64 0, .int .u64 3, .slice none 0 0, .bool false, .int .u64 0, .int .u64 0, .int .u64 0, .int .u64 0, .string ⟨#[]⟩] 27 (0, 0))
        have hk1 := HKr.out.alloc (.cells #[.int .i64 5, .int .i64 0, .int .i64 1, .int .u64 2, .int .u64 0, .int .u64 0, .int .u64 3, .slice none 0 0, .bool false, .int .u64 0, .int .u64 0, .int .u64 0, .int .u64 0, .string ⟨#[]⟩] 27)
        have hl1 := blk_alloc HLr.out (.cells #[.int .i64 5, .int .i64 0, .int .i64 1, .int .u64 2, .int .u64 0, .int .u64 0, .int .u64 3, .slice none 0 0, .bool false, .int .u64 0, .int .u64 0, .int .u64 0, .int .u64 0, .string ⟨#[]⟩] 27)
        obtain ⟨M, hM⟩ : ∃ M, M = wr.heap.size := ⟨_, rfl⟩
        rw [← hM] at hm ⊢
        clear hM
        generalize hW : World.alloc wr _ = W6 at hm hk1 hl1 ⊢
        clear hW
        have M6 := Lib.hid hm
        have K6 := Lib.hid hk1
        have L6 := Lib.hid hl1
        clear hm hk1 hl1
        refine (encode_any beatM (.slice none 0 0) W6 beat_fit (fun _ => beat_small) (EntsAt.nil _)).mono ?_
        rintro e w7 ⟨rfl, hb7⟩
        have M7 := Lib.hid (blk_below hb7 (blk_lt M6.out) M6.out)
        have K7 := Lib.hid (K6.out.step hb7)
        have L7 := Lib.hid (blk_below hb7 (blk_lt L6.out) L6.out)
        clear hb7 M6 K6 L6
        rw [show encE beatM = 0 from if_pos beat_check]
        obtain ⟨S, hS⟩ : ∃ S, S = encB beatM := ⟨_, rfl⟩
        have hSf : Fine S := hS ▸ fine_enc beat_fit beat_small beat_check
        have hSd : decB S = (beatM, 0) := hS ▸ dec_enc beat_fit beat_check
        rw [← hS]
        have HSF := Lib.hid hSf
        have HSD := Lib.hid hSd
        clear hS hSf hSd
        go_wp2_with fail
        refine (decode_any S w7 HSF.out).mono ?_
        rintro e w8 ⟨v, rfl, hv, hb8⟩
        rw [HSD.out] at hv ⊢
        obtain ⟨A, cap, rfl, -⟩ := hv.form2
        have M8 := Lib.hid (blk_below hb8 (blk_lt M7.out) M7.out)
        have K8 := Lib.hid (K7.out.step hb8)
        have L8 := Lib.hid (blk_below hb8 (blk_lt L7.out) L7.out)
        have V8 := Lib.hid hv
        clear hb8 M7 K7 L7 hv
        obtain ⟨U, hU⟩ : ∃ U, U = Value.slice A (beatM).es.length cap := ⟨_, rfl⟩
        dsimp only at hU V8 ⊢
        have hMlt := blk_lt M8.out
        have l0 : w8.cell? ⟨M, 0, none⟩ = some (.int .i64 5) := blk_cell M8.out 0
        have l1 : w8.cell? ⟨M, 1, none⟩ = some (.int .i64 0) := blk_cell M8.out 1
        have l2 : w8.cell? ⟨M, 2, none⟩ = some (.int .i64 1) := blk_cell M8.out 2
        have l3 : w8.cell? ⟨M, 3, none⟩ = some (.int .u64 2) := blk_cell M8.out 3
        have l4 : w8.cell? ⟨M, 4, none⟩ = some (.int .u64 0) := blk_cell M8.out 4
        have l5 : w8.cell? ⟨M, 5, none⟩ = some (.int .u64 0) := blk_cell M8.out 5
        have l6 : w8.cell? ⟨M, 6, none⟩ = some (.int .u64 3) := blk_cell M8.out 6
        have l7 : w8.cell? ⟨M, 7, none⟩ = some (.slice none 0 0) := blk_cell M8.out 7
        have l8 : w8.cell? ⟨M, 8, none⟩ = some (.bool false) := blk_cell M8.out 8
        have l9 : w8.cell? ⟨M, 9, none⟩ = some (.int .u64 0) := blk_cell M8.out 9
        have l10 : w8.cell? ⟨M, 10, none⟩ = some (.int .u64 0) := blk_cell M8.out 10
        have l11 : w8.cell? ⟨M, 11, none⟩ = some (.int .u64 0) := blk_cell M8.out 11
        have l12 : w8.cell? ⟨M, 12, none⟩ = some (.int .u64 0) := blk_cell M8.out 12
        have l13 : w8.cell? ⟨M, 13, none⟩ = some (.string ⟨#[]⟩) := blk_cell M8.out 13
        clear hU U
        rw [beat_cells]
        go_wp2_with fail
        clear l0 l1 l2 l3 l4 l5 l6 l7 l8 l9 l10 l11 l12 l13
        have hal := (Below.refl w8.heap.size w8).alloc (Nat.le_refl _) (.cells #[.int .i64 5, .int .i64 0, .int .i64 1, .int .u64 2, .int .u64 0, .int .u64 0, .int .u64 3, (.slice A (beatM).es.length cap), .bool false, .int .u64 0, .int .u64 0, .int .u64 0, .int .u64 0, .string ⟨#[]⟩] 27 (0, 0))
        have K9 := K8.out.step hal
        have L9 := blk_below hal (blk_lt L8.out) L8.out
        have V9 := V8.out.below hal (Nat.le_refl _)
        generalize hW : World.alloc w8 _ = W9 at K9 L9 V9 ⊢
        clear hW hal K8 L8 V8 M8
        have K9 := Lib.hid K9
        have L9 := Lib.hid L9
        have V9 := Lib.hid V9
        refine (same_any beatM (.slice A beatM.es.length cap) (.slice none 0 0) W9 (by decide) V9.out (EntsAt.nil _)).mono ?_
        rintro e w10 ⟨rfl, hb10⟩
        have K10 := Lib.hid (K9.out.step hb10)
        have L10 := Lib.hid (blk_below hb10 (blk_lt L9.out) L9.out)
        clear hb10
        go_wp2_with fail
        exact ⟨⟨4, by decide, rfl, L10.out, K10.out⟩, by decide⟩
    · obtain rfl : k = 4 := by omega
      clear HLr
      rw [show (((4 : Nat)) : Int) = 4 from rfl]
      go_wp2_with fail
      go_loopw [10] (fun i W => ∃ k : Nat, k ≤ 19 ∧ i = .int .i64 k ∧ Hid (KC w E a b c W)) (fun i _ => 19 - (intOf i).toNat)
      case atStart => exact ⟨0, by decide, rfl, HKr.out⟩
      case round =>
        obtain ⟨k, hk, rfl, HK⟩ := hrel
        clear HKr hlt
        by_cases hlt : k < 19
        · have hc19 : k = 0 ∨ k = 1 ∨ k = 2 ∨ k = 3 ∨ k = 4 ∨ k = 5 ∨ k = 6 ∨ k = 7 ∨ k = 8 ∨ k = 9 ∨ k = 10 ∨ k = 11 ∨ k = 12 ∨ k = 13 ∨ k = 14 ∨ k = 15 ∨ k = 16 ∨ k = 17 ∨ k = 18 := by omega
          rcases hc19 with rfl | rfl | rfl | rfl | rfl | rfl | rfl | rfl | rfl | rfl | rfl | rfl | rfl | rfl | rfl | rfl | rfl | rfl | rfl
          · as_aux_lemma =>
            rw [show (((0 : Nat)) : Int) = 0 from rfl]
            have hEl := blk_lt HK.out.e
            have hal := blk_lt HK.out.a
            have hbl := blk_lt HK.out.b
            have hsz : ((wr.alloc (.cells #[.int .i64 3, .int .i64 6, .int .i64 0, .int .u64 3, .int .u64 4, .int .u64 2, .int .u64 4, .slice (some ⟨E, 0, none⟩) 2 2, .bool false, .int .u64 0, .int .u64 0, .int .u64 0, .int .u64 0, .string ⟨#[]⟩] 27)).alloc (.cells #[] 34)).heap.size = wr.heap.size + 2 := by rw [World.size_alloc, World.size_alloc]
            have hwp : Below wr.heap.size wr ((wr.alloc (.cells #[.int .i64 3, .int .i64 6, .int .i64 0, .int .u64 3, .int .u64 4, .int .u64 2, .int .u64 4, .slice (some ⟨E, 0, none⟩) 2 2, .bool false, .int .u64 0, .int .u64 0, .int .u64 0, .int .u64 0, .string ⟨#[]⟩] 27)).alloc (.cells #[] 34)) := ((Below.refl _ wr).alloc (Nat.le_refl _) _).alloc (by rw [World.size_alloc]; omega) _
            have hm0 : ((wr.alloc (.cells #[.int .i64 3, .int .i64 6, .int .i64 0, .int .u64 3, .int .u64 4, .int .u64 2, .int .u64 4, .slice (some ⟨E, 0, none⟩) 2 2, .bool false, .int .u64 0, .int .u64 0, .int .u64 0, .int .u64 0, .string ⟨#[]⟩] 27)).alloc (.cells #[] 34)).heap[wr.heap.size]? = some (.cells #[.int .i64 3, .int .i64 6, .int .i64 0, .int .u64 3, .int .u64 4, .int .u64 2, .int .u64 4, .slice (some ⟨E, 0, none⟩) 2 2, .bool false, .int .u64 0, .int .u64 0, .int .u64 0, .int .u64 0, .string ⟨#[]⟩] 27 (0, 0)) := blk_alloc (blk_new wr _) _
            have hz0 : ((wr.alloc (.cells #[.int .i64 3, .int .i64 6, .int .i64 0, .int .u64 3, .int .u64 4, .int .u64 2, .int .u64 4, .slice (some ⟨E, 0, none⟩) 2 2, .bool false, .int .u64 0, .int .u64 0, .int .u64 0, .int .u64 0, .string ⟨#[]⟩] 27)).alloc (.cells #[] 34)).heap[wr.heap.size + 1]? = some (.cells #[] 34 (0, 0)) := by
              have := blk_new (wr.alloc (.cells #[.int .i64 3, .int .i64 6, .int .i64 0, .int .u64 3, .int .u64 4, .int .u64 2, .int .u64 4, .slice (some ⟨E, 0, none⟩) 2 2, .bool false, .int .u64 0, .int .u64 0, .int .u64 0, .int .u64 0, .string ⟨#[]⟩] 27)) (.cells #[] 34 (0, 0))
              rwa [World.size_alloc] at this
            have hw0 : ((wr.alloc (.cells #[.int .i64 3, .int .i64 6, .int .i64 0, .int .u64 3, .int .u64 4, .int .u64 2, .int .u64 4, .slice (some ⟨E, 0, none⟩) 2 2, .bool false, .int .u64 0, .int .u64 0, .int .u64 0, .int .u64 0, .string ⟨#[]⟩] 27)).alloc (.cells #[] 34)).ownsRow (wr.heap.size + 1) 34 3 (.slice (some ⟨wr.heap.size + 1, 0, none⟩) 0 0) 0 [] := ⟨rfl, .inr ⟨wr.heap.size + 1, 0, #[], rfl, Nat.le_refl _, hz0, Nat.le_refl _, Nat.zero_le _, rfl, rfl⟩⟩
            have hn0 : ((wr.alloc (.cells #[.int .i64 3, .int .i64 6, .int .i64 0, .int .u64 3, .int .u64 4, .int .u64 2, .int .u64 4, .slice (some ⟨E, 0, none⟩) 2 2, .bool false, .int .u64 0, .int .u64 0, .int .u64 0, .int .u64 0, .string ⟨#[]⟩] 27)).alloc (.cells #[] 34)).heap[E]? = some (.cells #[.int .u64 2, .int .u64 5, .string ⟨#[97]⟩, .int .u64 3, .int .u64 6, .string ⟨#[]⟩] 34 (0, 0)) := blk_below hwp hEl HK.out.e
            have HSZ := Lib.hid hsz
            have HWP := Lib.hid hwp
            have HM0 := Lib.hid hm0
            have HW0 := Lib.hid hw0
            have HN0 := Lib.hid hn0
            clear hsz hwp hm0 hz0 hw0 hn0
            obtain ⟨i0, hi, hz0, hz1, hz2⟩ := info_parts info34
            have a0 : wr.cell? ⟨a, 0, none⟩ = some (.int .i64 3) := blk_cell HK.out.a 0
            have a1 : wr.cell? ⟨a, 1, none⟩ = some (.int .i64 6) := blk_cell HK.out.a 1
            have a2 : wr.cell? ⟨a, 2, none⟩ = some (.int .i64 0) := blk_cell HK.out.a 2
            have a3 : wr.cell? ⟨a, 3, none⟩ = some (.int .u64 3) := blk_cell HK.out.a 3
            have a4 : wr.cell? ⟨a, 4, none⟩ = some (.int .u64 4) := blk_cell HK.out.a 4
            have a5 : wr.cell? ⟨a, 5, none⟩ = some (.int .u64 2) := blk_cell HK.out.a 5
            have a6 : wr.cell? ⟨a, 6, none⟩ = some (.int .u64 4) := blk_cell HK.out.a 6
            have a7 : wr.cell? ⟨a, 7, none⟩ = some (.slice (some ⟨E, 0, none⟩) 2 2) := blk_cell HK.out.a 7
            have a8 : wr.cell? ⟨a, 8, none⟩ = some (.bool false) := blk_cell HK.out.a 8
            have a9 : wr.cell? ⟨a, 9, none⟩ = some (.int .u64 0) := blk_cell HK.out.a 9
            have a10 : wr.cell? ⟨a, 10, none⟩ = some (.int .u64 0) := blk_cell HK.out.a 10
            have a11 : wr.cell? ⟨a, 11, none⟩ = some (.int .u64 0) := blk_cell HK.out.a 11
            have a12 : wr.cell? ⟨a, 12, none⟩ = some (.int .u64 0) := blk_cell HK.out.a 12
            have a13 : wr.cell? ⟨a, 13, none⟩ = some (.string ⟨#[]⟩) := blk_cell HK.out.a 13
            go_wp2_with (at_builtin; refine wpList_append_lies _ rfl _ _ 23 rfl (wr.heap.size + 1) 34 i0 (.agg #[.int .u64 0, .int .u64 0, .string ⟨#[]⟩]) 3 32 Try.underlying23 hi hz0 hz1 hz2 rfl (by decide) (.slice (some ⟨wr.heap.size + 1, 0, none⟩) 0 0) 0 [] rfl HW0.out ⟨E, 0, none⟩ 2 2 (#[.int .u64 2, .int .u64 5, .string ⟨#[97]⟩, .int .u64 3, .int .u64 6, .string ⟨#[]⟩] : Array Value).toList rfl rfl (World.news_of_block HN0.out) ents_one (by decide) (by decide) (by decide) (by have := HSZ.out; omega) _ rfl ?_
                         intro g2 cap2 w3 hown hgrow hat hlt3
                         have hb3 := grown_below (r := wr.heap.size + 1) hgrow (by have := HSZ.out; omega)
                         have hmsg := blk_below hb3 (Nat.lt_succ_self _) HM0.out
                         have HMSG := Lib.hid hmsg
                         have hWW : Below wr.heap.size wr w3 := HWP.out.trans (hb3.mono (Nat.le_succ _))
                         have HBW := Lib.hid hWW
                         have hg2 := (own_cells hown).1
                         have hMg : ¬ wr.heap.size = g2 := by omega
                         have hgM : ¬ g2 = wr.heap.size := by omega
                         have hcl := (own_cells hown).2
                         have hMlt := blk_lt hmsg
                         have m0 : w3.cell? ⟨wr.heap.size, 0, none⟩ = some (.int .i64 3) := blk_cell hmsg 0
                         have m1 : w3.cell? ⟨wr.heap.size, 1, none⟩ = some (.int .i64 6) := blk_cell hmsg 1
                         have m2 : w3.cell? ⟨wr.heap.size, 2, none⟩ = some (.int .i64 0) := blk_cell hmsg 2
                         have m3 : w3.cell? ⟨wr.heap.size, 3, none⟩ = some (.int .u64 3) := blk_cell hmsg 3
                         have m4 : w3.cell? ⟨wr.heap.size, 4, none⟩ = some (.int .u64 4) := blk_cell hmsg 4
                         have m5 : w3.cell? ⟨wr.heap.size, 5, none⟩ = some (.int .u64 2) := blk_cell hmsg 5
                         have m6 : w3.cell? ⟨wr.heap.size, 6, none⟩ = some (.int .u64 4) := blk_cell hmsg 6
                         have m7 : w3.cell? ⟨wr.heap.size, 7, none⟩ = some (.slice (some ⟨E, 0, none⟩) 2 2) := blk_cell hmsg 7
                         have m8 : w3.cell? ⟨wr.heap.size, 8, none⟩ = some (.bool false) := blk_cell hmsg 8
                         have m9 : w3.cell? ⟨wr.heap.size, 9, none⟩ = some (.int .u64 0) := blk_cell hmsg 9
                         have m10 : w3.cell? ⟨wr.heap.size, 10, none⟩ = some (.int .u64 0) := blk_cell hmsg 10
                         have m11 : w3.cell? ⟨wr.heap.size, 11, none⟩ = some (.int .u64 0) := blk_cell hmsg 11
                         have m12 : w3.cell? ⟨wr.heap.size, 12, none⟩ = some (.int .u64 0) := blk_cell hmsg 12
                         have m13 : w3.cell? ⟨wr.heap.size, 13, none⟩ = some (.string ⟨#[]⟩) := blk_cell hmsg 13
                         have f0 : w3.frozen? ⟨wr.heap.size, 0, none⟩ = false := blk_frozen hmsg 0
                         have f7 : w3.frozen? ⟨wr.heap.size, 7, none⟩ = false := blk_frozen hmsg 7
                         have HOWN := Lib.hid hown
                         clear a0 a1 a2 a3 a4 a5 a6 a7 a8 a9 a10 a11 a12 a13 hi hz0 hz1 hz2 hown hgrow hat hb3 hcl hWW hmsg)
            clear m0 m1 m2 m3 m4 m5 m6 m7 m8 m9 m10 m11 m12 m13
            have hmF : ((w3.setCell ⟨wr.heap.size, 7, none⟩ (.slice (some ⟨g2, 0, none⟩) 2 cap2)).setCell ⟨wr.heap.size, 0, none⟩ (.int .i64 0)).heap[wr.heap.size]? = some (.cells (mgCells mk0 (.slice (some ⟨g2, 0, none⟩) 2 cap2)) 27 (0, 0)) := blk_set (blk_set HMSG.out 7 _) 0 _
            have hent : EntsAt ((w3.setCell ⟨wr.heap.size, 7, none⟩ (.slice (some ⟨g2, 0, none⟩) 2 cap2)).setCell ⟨wr.heap.size, 0, none⟩ (.int .i64 0)) (.slice (some ⟨g2, 0, none⟩) 2 cap2) mk0.es := own_ents (B := wr.heap.size + 1) (own_set (own_set HOWN.out ⟨wr.heap.size, 7, none⟩ (Nat.lt_succ_self _) _) ⟨wr.heap.size, 0, none⟩ (Nat.lt_succ_self _) _)
            have hkc : KC w E a b c ((w3.setCell ⟨wr.heap.size, 7, none⟩ (.slice (some ⟨g2, 0, none⟩) 2 cap2)).setCell ⟨wr.heap.size, 0, none⟩ (.int .i64 0)) := HK.out.step ((HBW.out.setCell (p := ⟨wr.heap.size, 7, none⟩) (Nat.le_refl _) _).setCell (p := ⟨wr.heap.size, 0, none⟩) (Nat.le_refl _) _)
            generalize hW : World.setCell _ _ _ = WF at hmF hent hkc ⊢
            clear hW
            have MF := Lib.hid hmF
            have EF := Lib.hid hent
            have KF := Lib.hid hkc
            clear hmF hent hkc
            refine (encode_any mk0 (.slice (some ⟨g2, 0, none⟩) 2 cap2) WF (mk0_fit) (fun hh => absurd hh (by rw [mk0_no]; decide)) EF.out).mono ?_
            rintro e w5 ⟨rfl, hb5⟩
            rw [show encB mk0 = [] from if_neg (by rw [mk0_no]; decide), show encE mk0 = 2 from if_neg (by rw [mk0_no]; decide)]
            have M5 := Lib.hid (blk_below hb5 (blk_lt MF.out) MF.out)
            have E5 := Lib.hid (EF.out.below hb5 (Nat.le_refl _))
            have K5 := Lib.hid (KF.out.step hb5)
            clear hb5 MF EF KF
            obtain ⟨c0, c1, c2, c3, c4, c5, c6, c7, c8, c9, c10, c11, c12, c13⟩ := mg_cells M5.out
            go_wp2_with fail
            clear c0 c1 c2 c3 c4 c5 c6 c7 c8 c9 c10 c11 c12 c13
            refine (check_any mk0 (.slice (some ⟨g2, 0, none⟩) 2 cap2) w5 (mk0_fit) E5.out).mono ?_
            rintro e w6 ⟨rfl, hb6⟩
            rw [show (if checkB mk0 = true then (0 : Int) else 2) = 2 from if_neg (by rw [mk0_no]; decide)]
            have K6 := Lib.hid (K5.out.step hb6)
            clear hb6
            go_wp2_with fail
            exact ⟨⟨1, by decide, rfl, K6.out⟩, by decide⟩
          · as_aux_lemma =>
            rw [show (((1 : Nat)) : Int) = 1 from rfl]
            have hEl := blk_lt HK.out.e
            have hal := blk_lt HK.out.a
            have hbl := blk_lt HK.out.b
            have hsz : ((wr.alloc (.cells #[.int .i64 3, .int .i64 6, .int .i64 0, .int .u64 3, .int .u64 4, .int .u64 2, .int .u64 4, .slice (some ⟨E, 0, none⟩) 2 2, .bool false, .int .u64 0, .int .u64 0, .int .u64 0, .int .u64 0, .string ⟨#[]⟩] 27)).alloc (.cells #[] 34)).heap.size = wr.heap.size + 2 := by rw [World.size_alloc, World.size_alloc]
            have hwp : Below wr.heap.size wr ((wr.alloc (.cells #[.int .i64 3, .int .i64 6, .int .i64 0, .int .u64 3, .int .u64 4, .int .u64 2, .int .u64 4, .slice (some ⟨E, 0, none⟩) 2 2, .bool false, .int .u64 0, .int .u64 0, .int .u64 0, .int .u64 0, .string ⟨#[]⟩] 27)).alloc (.cells #[] 34)) := ((Below.refl _ wr).alloc (Nat.le_refl _) _).alloc (by rw [World.size_alloc]; omega) _
            have hm0 : ((wr.alloc (.cells #[.int .i64 3, .int .i64 6, .int .i64 0, .int .u64 3, .int .u64 4, .int .u64 2, .int .u64 4, .slice (some ⟨E, 0, none⟩) 2 2, .bool false, .int .u64 0, .int .u64 0, .int .u64 0, .int .u64 0, .string ⟨#[]⟩] 27)).alloc (.cells #[] 34)).heap[wr.heap.size]? = some (.cells #[.int .i64 3, .int .i64 6, .int .i64 0, .int .u64 3, .int .u64 4, .int .u64 2, .int .u64 4, .slice (some ⟨E, 0, none⟩) 2 2, .bool false, .int .u64 0, .int .u64 0, .int .u64 0, .int .u64 0, .string ⟨#[]⟩] 27 (0, 0)) := blk_alloc (blk_new wr _) _
            have hz0 : ((wr.alloc (.cells #[.int .i64 3, .int .i64 6, .int .i64 0, .int .u64 3, .int .u64 4, .int .u64 2, .int .u64 4, .slice (some ⟨E, 0, none⟩) 2 2, .bool false, .int .u64 0, .int .u64 0, .int .u64 0, .int .u64 0, .string ⟨#[]⟩] 27)).alloc (.cells #[] 34)).heap[wr.heap.size + 1]? = some (.cells #[] 34 (0, 0)) := by
              have := blk_new (wr.alloc (.cells #[.int .i64 3, .int .i64 6, .int .i64 0, .int .u64 3, .int .u64 4, .int .u64 2, .int .u64 4, .slice (some ⟨E, 0, none⟩) 2 2, .bool false, .int .u64 0, .int .u64 0, .int .u64 0, .int .u64 0, .string ⟨#[]⟩] 27)) (.cells #[] 34 (0, 0))
              rwa [World.size_alloc] at this
            have hw0 : ((wr.alloc (.cells #[.int .i64 3, .int .i64 6, .int .i64 0, .int .u64 3, .int .u64 4, .int .u64 2, .int .u64 4, .slice (some ⟨E, 0, none⟩) 2 2, .bool false, .int .u64 0, .int .u64 0, .int .u64 0, .int .u64 0, .string ⟨#[]⟩] 27)).alloc (.cells #[] 34)).ownsRow (wr.heap.size + 1) 34 3 (.slice (some ⟨wr.heap.size + 1, 0, none⟩) 0 0) 0 [] := ⟨rfl, .inr ⟨wr.heap.size + 1, 0, #[], rfl, Nat.le_refl _, hz0, Nat.le_refl _, Nat.zero_le _, rfl, rfl⟩⟩
            have hn0 : ((wr.alloc (.cells #[.int .i64 3, .int .i64 6, .int .i64 0, .int .u64 3, .int .u64 4, .int .u64 2, .int .u64 4, .slice (some ⟨E, 0, none⟩) 2 2, .bool false, .int .u64 0, .int .u64 0, .int .u64 0, .int .u64 0, .string ⟨#[]⟩] 27)).alloc (.cells #[] 34)).heap[E]? = some (.cells #[.int .u64 2, .int .u64 5, .string ⟨#[97]⟩, .int .u64 3, .int .u64 6, .string ⟨#[]⟩] 34 (0, 0)) := blk_below hwp hEl HK.out.e
            have HSZ := Lib.hid hsz
            have HWP := Lib.hid hwp
            have HM0 := Lib.hid hm0
            have HW0 := Lib.hid hw0
            have HN0 := Lib.hid hn0
            clear hsz hwp hm0 hz0 hw0 hn0
            obtain ⟨i0, hi, hz0, hz1, hz2⟩ := info_parts info34
            have a0 : wr.cell? ⟨a, 0, none⟩ = some (.int .i64 3) := blk_cell HK.out.a 0
            have a1 : wr.cell? ⟨a, 1, none⟩ = some (.int .i64 6) := blk_cell HK.out.a 1
            have a2 : wr.cell? ⟨a, 2, none⟩ = some (.int .i64 0) := blk_cell HK.out.a 2
            have a3 : wr.cell? ⟨a, 3, none⟩ = some (.int .u64 3) := blk_cell HK.out.a 3
            have a4 : wr.cell? ⟨a, 4, none⟩ = some (.int .u64 4) := blk_cell HK.out.a 4
            have a5 : wr.cell? ⟨a, 5, none⟩ = some (.int .u64 2) := blk_cell HK.out.a 5
            have a6 : wr.cell? ⟨a, 6, none⟩ = some (.int .u64 4) := blk_cell HK.out.a 6
            have a7 : wr.cell? ⟨a, 7, none⟩ = some (.slice (some ⟨E, 0, none⟩) 2 2) := blk_cell HK.out.a 7
            have a8 : wr.cell? ⟨a, 8, none⟩ = some (.bool false) := blk_cell HK.out.a 8
            have a9 : wr.cell? ⟨a, 9, none⟩ = some (.int .u64 0) := blk_cell HK.out.a 9
            have a10 : wr.cell? ⟨a, 10, none⟩ = some (.int .u64 0) := blk_cell HK.out.a 10
            have a11 : wr.cell? ⟨a, 11, none⟩ = some (.int .u64 0) := blk_cell HK.out.a 11
            have a12 : wr.cell? ⟨a, 12, none⟩ = some (.int .u64 0) := blk_cell HK.out.a 12
            have a13 : wr.cell? ⟨a, 13, none⟩ = some (.string ⟨#[]⟩) := blk_cell HK.out.a 13
            go_wp2_with (at_builtin; refine wpList_append_lies _ rfl _ _ 23 rfl (wr.heap.size + 1) 34 i0 (.agg #[.int .u64 0, .int .u64 0, .string ⟨#[]⟩]) 3 32 Try.underlying23 hi hz0 hz1 hz2 rfl (by decide) (.slice (some ⟨wr.heap.size + 1, 0, none⟩) 0 0) 0 [] rfl HW0.out ⟨E, 0, none⟩ 2 2 (#[.int .u64 2, .int .u64 5, .string ⟨#[97]⟩, .int .u64 3, .int .u64 6, .string ⟨#[]⟩] : Array Value).toList rfl rfl (World.news_of_block HN0.out) ents_one (by decide) (by decide) (by decide) (by have := HSZ.out; omega) _ rfl ?_
                         intro g2 cap2 w3 hown hgrow hat hlt3
                         have hb3 := grown_below (r := wr.heap.size + 1) hgrow (by have := HSZ.out; omega)
                         have hmsg := blk_below hb3 (Nat.lt_succ_self _) HM0.out
                         have HMSG := Lib.hid hmsg
                         have hWW : Below wr.heap.size wr w3 := HWP.out.trans (hb3.mono (Nat.le_succ _))
                         have HBW := Lib.hid hWW
                         have hg2 := (own_cells hown).1
                         have hMg : ¬ wr.heap.size = g2 := by omega
                         have hgM : ¬ g2 = wr.heap.size := by omega
                         have hcl := (own_cells hown).2
                         have hMlt := blk_lt hmsg
                         have m0 : w3.cell? ⟨wr.heap.size, 0, none⟩ = some (.int .i64 3) := blk_cell hmsg 0
                         have m1 : w3.cell? ⟨wr.heap.size, 1, none⟩ = some (.int .i64 6) := blk_cell hmsg 1
                         have m2 : w3.cell? ⟨wr.heap.size, 2, none⟩ = some (.int .i64 0) := blk_cell hmsg 2
                         have m3 : w3.cell? ⟨wr.heap.size, 3, none⟩ = some (.int .u64 3) := blk_cell hmsg 3
                         have m4 : w3.cell? ⟨wr.heap.size, 4, none⟩ = some (.int .u64 4) := blk_cell hmsg 4
                         have m5 : w3.cell? ⟨wr.heap.size, 5, none⟩ = some (.int .u64 2) := blk_cell hmsg 5
                         have m6 : w3.cell? ⟨wr.heap.size, 6, none⟩ = some (.int .u64 4) := blk_cell hmsg 6
                         have m7 : w3.cell? ⟨wr.heap.size, 7, none⟩ = some (.slice (some ⟨E, 0, none⟩) 2 2) := blk_cell hmsg 7
                         have m8 : w3.cell? ⟨wr.heap.size, 8, none⟩ = some (.bool false) := blk_cell hmsg 8
                         have m9 : w3.cell? ⟨wr.heap.size, 9, none⟩ = some (.int .u64 0) := blk_cell hmsg 9
                         have m10 : w3.cell? ⟨wr.heap.size, 10, none⟩ = some (.int .u64 0) := blk_cell hmsg 10
                         have m11 : w3.cell? ⟨wr.heap.size, 11, none⟩ = some (.int .u64 0) := blk_cell hmsg 11
                         have m12 : w3.cell? ⟨wr.heap.size, 12, none⟩ = some (.int .u64 0) := blk_cell hmsg 12
                         have m13 : w3.cell? ⟨wr.heap.size, 13, none⟩ = some (.string ⟨#[]⟩) := blk_cell hmsg 13
                         have f0 : w3.frozen? ⟨wr.heap.size, 0, none⟩ = false := blk_frozen hmsg 0
                         have f7 : w3.frozen? ⟨wr.heap.size, 7, none⟩ = false := blk_frozen hmsg 7
                         have HOWN := Lib.hid hown
                         clear a0 a1 a2 a3 a4 a5 a6 a7 a8 a9 a10 a11 a12 a13 hi hz0 hz1 hz2 hown hgrow hat hb3 hcl hWW hmsg)
            clear m0 m1 m2 m3 m4 m5 m6 m7 m8 m9 m10 m11 m12 m13
            have hmF : ((w3.setCell ⟨wr.heap.size, 7, none⟩ (.slice (some ⟨g2, 0, none⟩) 2 cap2)).setCell ⟨wr.heap.size, 0, none⟩ (.int .i64 8)).heap[wr.heap.size]? = some (.cells (mgCells mk1 (.slice (some ⟨g2, 0, none⟩) 2 cap2)) 27 (0, 0)) := blk_set (blk_set HMSG.out 7 _) 0 _
            have hent : EntsAt ((w3.setCell ⟨wr.heap.size, 7, none⟩ (.slice (some ⟨g2, 0, none⟩) 2 cap2)).setCell ⟨wr.heap.size, 0, none⟩ (.int .i64 8)) (.slice (some ⟨g2, 0, none⟩) 2 cap2) mk1.es := own_ents (B := wr.heap.size + 1) (own_set (own_set HOWN.out ⟨wr.heap.size, 7, none⟩ (Nat.lt_succ_self _) _) ⟨wr.heap.size, 0, none⟩ (Nat.lt_succ_self _) _)
            have hkc : KC w E a b c ((w3.setCell ⟨wr.heap.size, 7, none⟩ (.slice (some ⟨g2, 0, none⟩) 2 cap2)).setCell ⟨wr.heap.size, 0, none⟩ (.int .i64 8)) := HK.out.step ((HBW.out.setCell (p := ⟨wr.heap.size, 7, none⟩) (Nat.le_refl _) _).setCell (p := ⟨wr.heap.size, 0, none⟩) (Nat.le_refl _) _)
            generalize hW : World.setCell _ _ _ = WF at hmF hent hkc ⊢
            clear hW
            have MF := Lib.hid hmF
            have EF := Lib.hid hent
            have KF := Lib.hid hkc
            clear hmF hent hkc
            refine (encode_any mk1 (.slice (some ⟨g2, 0, none⟩) 2 cap2) WF (mk1_fit) (fun hh => absurd hh (by rw [mk1_no]; decide)) EF.out).mono ?_
            rintro e w5 ⟨rfl, hb5⟩
            rw [show encB mk1 = [] from if_neg (by rw [mk1_no]; decide), show encE mk1 = 2 from if_neg (by rw [mk1_no]; decide)]
            have M5 := Lib.hid (blk_below hb5 (blk_lt MF.out) MF.out)
            have E5 := Lib.hid (EF.out.below hb5 (Nat.le_refl _))
            have K5 := Lib.hid (KF.out.step hb5)
            clear hb5 MF EF KF
            obtain ⟨c0, c1, c2, c3, c4, c5, c6, c7, c8, c9, c10, c11, c12, c13⟩ := mg_cells M5.out
            go_wp2_with fail
            clear c0 c1 c2 c3 c4 c5 c6 c7 c8 c9 c10 c11 c12 c13
            refine (check_any mk1 (.slice (some ⟨g2, 0, none⟩) 2 cap2) w5 (mk1_fit) E5.out).mono ?_
            rintro e w6 ⟨rfl, hb6⟩
            rw [show (if checkB mk1 = true then (0 : Int) else 2) = 2 from if_neg (by rw [mk1_no]; decide)]
            have K6 := Lib.hid (K5.out.step hb6)
            clear hb6
            go_wp2_with fail
            exact ⟨⟨2, by decide, rfl, K6.out⟩, by decide⟩
          · as_aux_lemma =>
            rw [show (((2 : Nat)) : Int) = 2 from rfl]
            have hEl := blk_lt HK.out.e
            have hal := blk_lt HK.out.a
            have hbl := blk_lt HK.out.b
            have hsz : ((wr.alloc (.cells #[.int .i64 3, .int .i64 6, .int .i64 0, .int .u64 3, .int .u64 4, .int .u64 2, .int .u64 4, .slice (some ⟨E, 0, none⟩) 2 2, .bool false, .int .u64 0, .int .u64 0, .int .u64 0, .int .u64 0, .string ⟨#[]⟩] 27)).alloc (.cells #[] 34)).heap.size = wr.heap.size + 2 := by rw [World.size_alloc, World.size_alloc]
            have hwp : Below wr.heap.size wr ((wr.alloc (.cells #[.int .i64 3, .int .i64 6, .int .i64 0, .int .u64 3, .int .u64 4, .int .u64 2, .int .u64 4, .slice (some ⟨E, 0, none⟩) 2 2, .bool false, .int .u64 0, .int .u64 0, .int .u64 0, .int .u64 0, .string ⟨#[]⟩] 27)).alloc (.cells #[] 34)) := ((Below.refl _ wr).alloc (Nat.le_refl _) _).alloc (by rw [World.size_alloc]; omega) _
            have hm0 : ((wr.alloc (.cells #[.int .i64 3, .int .i64 6, .int .i64 0, .int .u64 3, .int .u64 4, .int .u64 2, .int .u64 4, .slice (some ⟨E, 0, none⟩) 2 2, .bool false, .int .u64 0, .int .u64 0, .int .u64 0, .int .u64 0, .string ⟨#[]⟩] 27)).alloc (.cells #[] 34)).heap[wr.heap.size]? = some (.cells #[.int .i64 3, .int .i64 6, .int .i64 0, .int .u64 3, .int .u64 4, .int .u64 2, .int .u64 4, .slice (some ⟨E, 0, none⟩) 2 2, .bool false, .int .u64 0, .int .u64 0, .int .u64 0, .int .u64 0, .string ⟨#[]⟩] 27 (0, 0)) := blk_alloc (blk_new wr _) _
            have hz0 : ((wr.alloc (.cells #[.int .i64 3, .int .i64 6, .int .i64 0, .int .u64 3, .int .u64 4, .int .u64 2, .int .u64 4, .slice (some ⟨E, 0, none⟩) 2 2, .bool false, .int .u64 0, .int .u64 0, .int .u64 0, .int .u64 0, .string ⟨#[]⟩] 27)).alloc (.cells #[] 34)).heap[wr.heap.size + 1]? = some (.cells #[] 34 (0, 0)) := by
              have := blk_new (wr.alloc (.cells #[.int .i64 3, .int .i64 6, .int .i64 0, .int .u64 3, .int .u64 4, .int .u64 2, .int .u64 4, .slice (some ⟨E, 0, none⟩) 2 2, .bool false, .int .u64 0, .int .u64 0, .int .u64 0, .int .u64 0, .string ⟨#[]⟩] 27)) (.cells #[] 34 (0, 0))
              rwa [World.size_alloc] at this
            have hw0 : ((wr.alloc (.cells #[.int .i64 3, .int .i64 6, .int .i64 0, .int .u64 3, .int .u64 4, .int .u64 2, .int .u64 4, .slice (some ⟨E, 0, none⟩) 2 2, .bool false, .int .u64 0, .int .u64 0, .int .u64 0, .int .u64 0, .string ⟨#[]⟩] 27)).alloc (.cells #[] 34)).ownsRow (wr.heap.size + 1) 34 3 (.slice (some ⟨wr.heap.size + 1, 0, none⟩) 0 0) 0 [] := ⟨rfl, .inr ⟨wr.heap.size + 1, 0, #[], rfl, Nat.le_refl _, hz0, Nat.le_refl _, Nat.zero_le _, rfl, rfl⟩⟩
            have hn0 : ((wr.alloc (.cells #[.int .i64 3, .int .i64 6, .int .i64 0, .int .u64 3, .int .u64 4, .int .u64 2, .int .u64 4, .slice (some ⟨E, 0, none⟩) 2 2, .bool false, .int .u64 0, .int .u64 0, .int .u64 0, .int .u64 0, .string ⟨#[]⟩] 27)).alloc (.cells #[] 34)).heap[E]? = some (.cells #[.int .u64 2, .int .u64 5, .string ⟨#[97]⟩, .int .u64 3, .int .u64 6, .string ⟨#[]⟩] 34 (0, 0)) := blk_below hwp hEl HK.out.e
            have HSZ := Lib.hid hsz
            have HWP := Lib.hid hwp
            have HM0 := Lib.hid hm0
            have HW0 := Lib.hid hw0
            have HN0 := Lib.hid hn0
            clear hsz hwp hm0 hz0 hw0 hn0
            obtain ⟨i0, hi, hz0, hz1, hz2⟩ := info_parts info34
            have a0 : wr.cell? ⟨a, 0, none⟩ = some (.int .i64 3) := blk_cell HK.out.a 0
            have a1 : wr.cell? ⟨a, 1, none⟩ = some (.int .i64 6) := blk_cell HK.out.a 1
            have a2 : wr.cell? ⟨a, 2, none⟩ = some (.int .i64 0) := blk_cell HK.out.a 2
            have a3 : wr.cell? ⟨a, 3, none⟩ = some (.int .u64 3) := blk_cell HK.out.a 3
            have a4 : wr.cell? ⟨a, 4, none⟩ = some (.int .u64 4) := blk_cell HK.out.a 4
            have a5 : wr.cell? ⟨a, 5, none⟩ = some (.int .u64 2) := blk_cell HK.out.a 5
            have a6 : wr.cell? ⟨a, 6, none⟩ = some (.int .u64 4) := blk_cell HK.out.a 6
            have a7 : wr.cell? ⟨a, 7, none⟩ = some (.slice (some ⟨E, 0, none⟩) 2 2) := blk_cell HK.out.a 7
            have a8 : wr.cell? ⟨a, 8, none⟩ = some (.bool false) := blk_cell HK.out.a 8
            have a9 : wr.cell? ⟨a, 9, none⟩ = some (.int .u64 0) := blk_cell HK.out.a 9
            have a10 : wr.cell? ⟨a, 10, none⟩ = some (.int .u64 0) := blk_cell HK.out.a 10
            have a11 : wr.cell? ⟨a, 11, none⟩ = some (.int .u64 0) := blk_cell HK.out.a 11
            have a12 : wr.cell? ⟨a, 12, none⟩ = some (.int .u64 0) := blk_cell HK.out.a 12
            have a13 : wr.cell? ⟨a, 13, none⟩ = some (.string ⟨#[]⟩) := blk_cell HK.out.a 13
            go_wp2_with (at_builtin; refine wpList_append_lies _ rfl _ _ 23 rfl (wr.heap.size + 1) 34 i0 (.agg #[.int .u64 0, .int .u64 0, .string ⟨#[]⟩]) 3 32 Try.underlying23 hi hz0 hz1 hz2 rfl (by decide) (.slice (some ⟨wr.heap.size + 1, 0, none⟩) 0 0) 0 [] rfl HW0.out ⟨E, 0, none⟩ 2 2 (#[.int .u64 2, .int .u64 5, .string ⟨#[97]⟩, .int .u64 3, .int .u64 6, .string ⟨#[]⟩] : Array Value).toList rfl rfl (World.news_of_block HN0.out) ents_one (by decide) (by decide) (by decide) (by have := HSZ.out; omega) _ rfl ?_
                         intro g2 cap2 w3 hown hgrow hat hlt3
                         have hb3 := grown_below (r := wr.heap.size + 1) hgrow (by have := HSZ.out; omega)
                         have hmsg := blk_below hb3 (Nat.lt_succ_self _) HM0.out
                         have HMSG := Lib.hid hmsg
                         have hWW : Below wr.heap.size wr w3 := HWP.out.trans (hb3.mono (Nat.le_succ _))
                         have HBW := Lib.hid hWW
                         have hg2 := (own_cells hown).1
                         have hMg : ¬ wr.heap.size = g2 := by omega
                         have hgM : ¬ g2 = wr.heap.size := by omega
                         have hcl := (own_cells hown).2
                         have hMlt := blk_lt hmsg
                         have m0 : w3.cell? ⟨wr.heap.size, 0, none⟩ = some (.int .i64 3) := blk_cell hmsg 0
                         have m1 : w3.cell? ⟨wr.heap.size, 1, none⟩ = some (.int .i64 6) := blk_cell hmsg 1
                         have m2 : w3.cell? ⟨wr.heap.size, 2, none⟩ = some (.int .i64 0) := blk_cell hmsg 2
                         have m3 : w3.cell? ⟨wr.heap.size, 3, none⟩ = some (.int .u64 3) := blk_cell hmsg 3
                         have m4 : w3.cell? ⟨wr.heap.size, 4, none⟩ = some (.int .u64 4) := blk_cell hmsg 4
                         have m5 : w3.cell? ⟨wr.heap.size, 5, none⟩ = some (.int .u64 2) := blk_cell hmsg 5
                         have m6 : w3.cell? ⟨wr.heap.size, 6, none⟩ = some (.int .u64 4) := blk_cell hmsg 6
                         have m7 : w3.cell? ⟨wr.heap.size, 7, none⟩ = some (.slice (some ⟨E, 0, none⟩) 2 2) := blk_cell hmsg 7
                         have m8 : w3.cell? ⟨wr.heap.size, 8, none⟩ = some (.bool false) := blk_cell hmsg 8
                         have m9 : w3.cell? ⟨wr.heap.size, 9, none⟩ = some (.int .u64 0) := blk_cell hmsg 9
                         have m10 : w3.cell? ⟨wr.heap.size, 10, none⟩ = some (.int .u64 0) := blk_cell hmsg 10
                         have m11 : w3.cell? ⟨wr.heap.size, 11, none⟩ = some (.int .u64 0) := blk_cell hmsg 11
                         have m12 : w3.cell? ⟨wr.heap.size, 12, none⟩ = some (.int .u64 0) := blk_cell hmsg 12
                         have m13 : w3.cell? ⟨wr.heap.size, 13, none⟩ = some (.string ⟨#[]⟩) := blk_cell hmsg 13
                         have f1 : w3.frozen? ⟨wr.heap.size, 1, none⟩ = false := blk_frozen hmsg 1
                         have f7 : w3.frozen? ⟨wr.heap.size, 7, none⟩ = false := blk_frozen hmsg 7
                         have HOWN := Lib.hid hown
                         clear a0 a1 a2 a3 a4 a5 a6 a7 a8 a9 a10 a11 a12 a13 hi hz0 hz1 hz2 hown hgrow hat hb3 hcl hWW hmsg)
            clear m0 m1 m2 m3 m4 m5 m6 m7 m8 m9 m10 m11 m12 m13
            have hmF : ((w3.setCell ⟨wr.heap.size, 7, none⟩ (.slice (some ⟨g2, 0, none⟩) 2 cap2)).setCell ⟨wr.heap.size, 1, none⟩ (.int .i64 7)).heap[wr.heap.size]? = some (.cells (mgCells mk2 (.slice (some ⟨g2, 0, none⟩) 2 cap2)) 27 (0, 0)) := blk_set (blk_set HMSG.out 7 _) 1 _
            have hent : EntsAt ((w3.setCell ⟨wr.heap.size, 7, none⟩ (.slice (some ⟨g2, 0, none⟩) 2 cap2)).setCell ⟨wr.heap.size, 1, none⟩ (.int .i64 7)) (.slice (some ⟨g2, 0, none⟩) 2 cap2) mk2.es := own_ents (B := wr.heap.size + 1) (own_set (own_set HOWN.out ⟨wr.heap.size, 7, none⟩ (Nat.lt_succ_self _) _) ⟨wr.heap.size, 1, none⟩ (Nat.lt_succ_self _) _)
            have hkc : KC w E a b c ((w3.setCell ⟨wr.heap.size, 7, none⟩ (.slice (some ⟨g2, 0, none⟩) 2 cap2)).setCell ⟨wr.heap.size, 1, none⟩ (.int .i64 7)) := HK.out.step ((HBW.out.setCell (p := ⟨wr.heap.size, 7, none⟩) (Nat.le_refl _) _).setCell (p := ⟨wr.heap.size, 1, none⟩) (Nat.le_refl _) _)
            generalize hW : World.setCell _ _ _ = WF at hmF hent hkc ⊢
            clear hW
            have MF := Lib.hid hmF
            have EF := Lib.hid hent
            have KF := Lib.hid hkc
            clear hmF hent hkc
            refine (encode_any mk2 (.slice (some ⟨g2, 0, none⟩) 2 cap2) WF (mk2_fit) (fun hh => absurd hh (by rw [mk2_no]; decide)) EF.out).mono ?_
            rintro e w5 ⟨rfl, hb5⟩
            rw [show encB mk2 = [] from if_neg (by rw [mk2_no]; decide), show encE mk2 = 2 from if_neg (by rw [mk2_no]; decide)]
            have M5 := Lib.hid (blk_below hb5 (blk_lt MF.out) MF.out)
            have E5 := Lib.hid (EF.out.below hb5 (Nat.le_refl _))
            have K5 := Lib.hid (KF.out.step hb5)
            clear hb5 MF EF KF
            obtain ⟨c0, c1, c2, c3, c4, c5, c6, c7, c8, c9, c10, c11, c12, c13⟩ := mg_cells M5.out
            go_wp2_with fail
            clear c0 c1 c2 c3 c4 c5 c6 c7 c8 c9 c10 c11 c12 c13
            refine (check_any mk2 (.slice (some ⟨g2, 0, none⟩) 2 cap2) w5 (mk2_fit) E5.out).mono ?_
            rintro e w6 ⟨rfl, hb6⟩
            rw [show (if checkB mk2 = true then (0 : Int) else 2) = 2 from if_neg (by rw [mk2_no]; decide)]
            have K6 := Lib.hid (K5.out.step hb6)
            clear hb6
            go_wp2_with fail
            exact ⟨⟨3, by decide, rfl, K6.out⟩, by decide⟩
          · as_aux_lemma =>
            rw [show (((3 : Nat)) : Int) = 3 from rfl]
            have hEl := blk_lt HK.out.e
            have hal := blk_lt HK.out.a
            have hbl := blk_lt HK.out.b
            have hsz : ((wr.alloc (.cells #[.int .i64 3, .int .i64 6, .int .i64 0, .int .u64 3, .int .u64 4, .int .u64 2, .int .u64 4, .slice (some ⟨E, 0, none⟩) 2 2, .bool false, .int .u64 0, .int .u64 0, .int .u64 0, .int .u64 0, .string ⟨#[]⟩] 27)).alloc (.cells #[] 34)).heap.size = wr.heap.size + 2 := by rw [World.size_alloc, World.size_alloc]
            have hwp : Below wr.heap.size wr ((wr.alloc (.cells #[.int .i64 3, .int .i64 6, .int .i64 0, .int .u64 3, .int .u64 4, .int .u64 2, .int .u64 4, .slice (some ⟨E, 0, none⟩) 2 2, .bool false, .int .u64 0, .int .u64 0, .int .u64 0, .int .u64 0, .string ⟨#[]⟩] 27)).alloc (.cells #[] 34)) := ((Below.refl _ wr).alloc (Nat.le_refl _) _).alloc (by rw [World.size_alloc]; omega) _
            have hm0 : ((wr.alloc (.cells #[.int .i64 3, .int .i64 6, .int .i64 0, .int .u64 3, .int .u64 4, .int .u64 2, .int .u64 4, .slice (some ⟨E, 0, none⟩) 2 2, .bool false, .int .u64 0, .int .u64 0, .int .u64 0, .int .u64 0, .string ⟨#[]⟩] 27)).alloc (.cells #[] 34)).heap[wr.heap.size]? = some (.cells #[.int .i64 3, .int .i64 6, .int .i64 0, .int .u64 3, .int .u64 4, .int .u64 2, .int .u64 4, .slice (some ⟨E, 0, none⟩) 2 2, .bool false, .int .u64 0, .int .u64 0, .int .u64 0, .int .u64 0, .string ⟨#[]⟩] 27 (0, 0)) := blk_alloc (blk_new wr _) _
            have hz0 : ((wr.alloc (.cells #[.int .i64 3, .int .i64 6, .int .i64 0, .int .u64 3, .int .u64 4, .int .u64 2, .int .u64 4, .slice (some ⟨E, 0, none⟩) 2 2, .bool false, .int .u64 0, .int .u64 0, .int .u64 0, .int .u64 0, .string ⟨#[]⟩] 27)).alloc (.cells #[] 34)).heap[wr.heap.size + 1]? = some (.cells #[] 34 (0, 0)) := by
              have := blk_new (wr.alloc (.cells #[.int .i64 3, .int .i64 6, .int .i64 0, .int .u64 3, .int .u64 4, .int .u64 2, .int .u64 4, .slice (some ⟨E, 0, none⟩) 2 2, .bool false, .int .u64 0, .int .u64 0, .int .u64 0, .int .u64 0, .string ⟨#[]⟩] 27)) (.cells #[] 34 (0, 0))
              rwa [World.size_alloc] at this
            have hw0 : ((wr.alloc (.cells #[.int .i64 3, .int .i64 6, .int .i64 0, .int .u64 3, .int .u64 4, .int .u64 2, .int .u64 4, .slice (some ⟨E, 0, none⟩) 2 2, .bool false, .int .u64 0, .int .u64 0, .int .u64 0, .int .u64 0, .string ⟨#[]⟩] 27)).alloc (.cells #[] 34)).ownsRow (wr.heap.size + 1) 34 3 (.slice (some ⟨wr.heap.size + 1, 0, none⟩) 0 0) 0 [] := ⟨rfl, .inr ⟨wr.heap.size + 1, 0, #[], rfl, Nat.le_refl _, hz0, Nat.le_refl _, Nat.zero_le _, rfl, rfl⟩⟩
            have hn0 : ((wr.alloc (.cells #[.int .i64 3, .int .i64 6, .int .i64 0, .int .u64 3, .int .u64 4, .int .u64 2, .int .u64 4, .slice (some ⟨E, 0, none⟩) 2 2, .bool false, .int .u64 0, .int .u64 0, .int .u64 0, .int .u64 0, .string ⟨#[]⟩] 27)).alloc (.cells #[] 34)).heap[E]? = some (.cells #[.int .u64 2, .int .u64 5, .string ⟨#[97]⟩, .int .u64 3, .int .u64 6, .string ⟨#[]⟩] 34 (0, 0)) := blk_below hwp hEl HK.out.e
            have HSZ := Lib.hid hsz
            have HWP := Lib.hid hwp
            have HM0 := Lib.hid hm0
            have HW0 := Lib.hid hw0
            have HN0 := Lib.hid hn0
            clear hsz hwp hm0 hz0 hw0 hn0
            obtain ⟨i0, hi, hz0, hz1, hz2⟩ := info_parts info34
            have a0 : wr.cell? ⟨a, 0, none⟩ = some (.int .i64 3) := blk_cell HK.out.a 0
            have a1 : wr.cell? ⟨a, 1, none⟩ = some (.int .i64 6) := blk_cell HK.out.a 1
            have a2 : wr.cell? ⟨a, 2, none⟩ = some (.int .i64 0) := blk_cell HK.out.a 2
            have a3 : wr.cell? ⟨a, 3, none⟩ = some (.int .u64 3) := blk_cell HK.out.a 3
            have a4 : wr.cell? ⟨a, 4, none⟩ = some (.int .u64 4) := blk_cell HK.out.a 4
            have a5 : wr.cell? ⟨a, 5, none⟩ = some (.int .u64 2) := blk_cell HK.out.a 5
            have a6 : wr.cell? ⟨a, 6, none⟩ = some (.int .u64 4) := blk_cell HK.out.a 6
            have a7 : wr.cell? ⟨a, 7, none⟩ = some (.slice (some ⟨E, 0, none⟩) 2 2) := blk_cell HK.out.a 7
            have a8 : wr.cell? ⟨a, 8, none⟩ = some (.bool false) := blk_cell HK.out.a 8
            have a9 : wr.cell? ⟨a, 9, none⟩ = some (.int .u64 0) := blk_cell HK.out.a 9
            have a10 : wr.cell? ⟨a, 10, none⟩ = some (.int .u64 0) := blk_cell HK.out.a 10
            have a11 : wr.cell? ⟨a, 11, none⟩ = some (.int .u64 0) := blk_cell HK.out.a 11
            have a12 : wr.cell? ⟨a, 12, none⟩ = some (.int .u64 0) := blk_cell HK.out.a 12
            have a13 : wr.cell? ⟨a, 13, none⟩ = some (.string ⟨#[]⟩) := blk_cell HK.out.a 13
            go_wp2_with (at_builtin; refine wpList_append_lies _ rfl _ _ 23 rfl (wr.heap.size + 1) 34 i0 (.agg #[.int .u64 0, .int .u64 0, .string ⟨#[]⟩]) 3 32 Try.underlying23 hi hz0 hz1 hz2 rfl (by decide) (.slice (some ⟨wr.heap.size + 1, 0, none⟩) 0 0) 0 [] rfl HW0.out ⟨E, 0, none⟩ 2 2 (#[.int .u64 2, .int .u64 5, .string ⟨#[97]⟩, .int .u64 3, .int .u64 6, .string ⟨#[]⟩] : Array Value).toList rfl rfl (World.news_of_block HN0.out) ents_one (by decide) (by decide) (by decide) (by have := HSZ.out; omega) _ rfl ?_
                         intro g2 cap2 w3 hown hgrow hat hlt3
                         have hb3 := grown_below (r := wr.heap.size + 1) hgrow (by have := HSZ.out; omega)
                         have hmsg := blk_below hb3 (Nat.lt_succ_self _) HM0.out
                         have HMSG := Lib.hid hmsg
                         have hWW : Below wr.heap.size wr w3 := HWP.out.trans (hb3.mono (Nat.le_succ _))
                         have HBW := Lib.hid hWW
                         have hg2 := (own_cells hown).1
                         have hMg : ¬ wr.heap.size = g2 := by omega
                         have hgM : ¬ g2 = wr.heap.size := by omega
                         have hcl := (own_cells hown).2
                         have hMlt := blk_lt hmsg
                         have m0 : w3.cell? ⟨wr.heap.size, 0, none⟩ = some (.int .i64 3) := blk_cell hmsg 0
                         have m1 : w3.cell? ⟨wr.heap.size, 1, none⟩ = some (.int .i64 6) := blk_cell hmsg 1
                         have m2 : w3.cell? ⟨wr.heap.size, 2, none⟩ = some (.int .i64 0) := blk_cell hmsg 2
                         have m3 : w3.cell? ⟨wr.heap.size, 3, none⟩ = some (.int .u64 3) := blk_cell hmsg 3
                         have m4 : w3.cell? ⟨wr.heap.size, 4, none⟩ = some (.int .u64 4) := blk_cell hmsg 4
                         have m5 : w3.cell? ⟨wr.heap.size, 5, none⟩ = some (.int .u64 2) := blk_cell hmsg 5
                         have m6 : w3.cell? ⟨wr.heap.size, 6, none⟩ = some (.int .u64 4) := blk_cell hmsg 6
                         have m7 : w3.cell? ⟨wr.heap.size, 7, none⟩ = some (.slice (some ⟨E, 0, none⟩) 2 2) := blk_cell hmsg 7
                         have m8 : w3.cell? ⟨wr.heap.size, 8, none⟩ = some (.bool false) := blk_cell hmsg 8
                         have m9 : w3.cell? ⟨wr.heap.size, 9, none⟩ = some (.int .u64 0) := blk_cell hmsg 9
                         have m10 : w3.cell? ⟨wr.heap.size, 10, none⟩ = some (.int .u64 0) := blk_cell hmsg 10
                         have m11 : w3.cell? ⟨wr.heap.size, 11, none⟩ = some (.int .u64 0) := blk_cell hmsg 11
                         have m12 : w3.cell? ⟨wr.heap.size, 12, none⟩ = some (.int .u64 0) := blk_cell hmsg 12
                         have m13 : w3.cell? ⟨wr.heap.size, 13, none⟩ = some (.string ⟨#[]⟩) := blk_cell hmsg 13
                         have f2 : w3.frozen? ⟨wr.heap.size, 2, none⟩ = false := blk_frozen hmsg 2
                         have f7 : w3.frozen? ⟨wr.heap.size, 7, none⟩ = false := blk_frozen hmsg 7
                         have HOWN := Lib.hid hown
                         clear a0 a1 a2 a3 a4 a5 a6 a7 a8 a9 a10 a11 a12 a13 hi hz0 hz1 hz2 hown hgrow hat hb3 hcl hWW hmsg)
            clear m0 m1 m2 m3 m4 m5 m6 m7 m8 m9 m10 m11 m12 m13
            have hmF : ((w3.setCell ⟨wr.heap.size, 7, none⟩ (.slice (some ⟨g2, 0, none⟩) 2 cap2)).setCell ⟨wr.heap.size, 2, none⟩ (.int .i64 (-1))).heap[wr.heap.size]? = some (.cells (mgCells mk3 (.slice (some ⟨g2, 0, none⟩) 2 cap2)) 27 (0, 0)) := blk_set (blk_set HMSG.out 7 _) 2 _
            have hent : EntsAt ((w3.setCell ⟨wr.heap.size, 7, none⟩ (.slice (some ⟨g2, 0, none⟩) 2 cap2)).setCell ⟨wr.heap.size, 2, none⟩ (.int .i64 (-1))) (.slice (some ⟨g2, 0, none⟩) 2 cap2) mk3.es := own_ents (B := wr.heap.size + 1) (own_set (own_set HOWN.out ⟨wr.heap.size, 7, none⟩ (Nat.lt_succ_self _) _) ⟨wr.heap.size, 2, none⟩ (Nat.lt_succ_self _) _)
            have hkc : KC w E a b c ((w3.setCell ⟨wr.heap.size, 7, none⟩ (.slice (some ⟨g2, 0, none⟩) 2 cap2)).setCell ⟨wr.heap.size, 2, none⟩ (.int .i64 (-1))) := HK.out.step ((HBW.out.setCell (p := ⟨wr.heap.size, 7, none⟩) (Nat.le_refl _) _).setCell (p := ⟨wr.heap.size, 2, none⟩) (Nat.le_refl _) _)
            generalize hW : World.setCell _ _ _ = WF at hmF hent hkc ⊢
            clear hW
            have MF := Lib.hid hmF
            have EF := Lib.hid hent
            have KF := Lib.hid hkc
            clear hmF hent hkc
            refine (encode_any mk3 (.slice (some ⟨g2, 0, none⟩) 2 cap2) WF (mk3_fit) (fun hh => absurd hh (by rw [mk3_no]; decide)) EF.out).mono ?_
            rintro e w5 ⟨rfl, hb5⟩
            rw [show encB mk3 = [] from if_neg (by rw [mk3_no]; decide), show encE mk3 = 2 from if_neg (by rw [mk3_no]; decide)]
            have M5 := Lib.hid (blk_below hb5 (blk_lt MF.out) MF.out)
            have E5 := Lib.hid (EF.out.below hb5 (Nat.le_refl _))
            have K5 := Lib.hid (KF.out.step hb5)
            clear hb5 MF EF KF
            obtain ⟨c0, c1, c2, c3, c4, c5, c6, c7, c8, c9, c10, c11, c12, c13⟩ := mg_cells M5.out
            go_wp2_with fail
            clear c0 c1 c2 c3 c4 c5 c6 c7 c8 c9 c10 c11 c12 c13
            refine (check_any mk3 (.slice (some ⟨g2, 0, none⟩) 2 cap2) w5 (mk3_fit) E5.out).mono ?_
            rintro e w6 ⟨rfl, hb6⟩
            rw [show (if checkB mk3 = true then (0 : Int) else 2) = 2 from if_neg (by rw [mk3_no]; decide)]
            have K6 := Lib.hid (K5.out.step hb6)
            clear hb6
            go_wp2_with fail
            exact ⟨⟨4, by decide, rfl, K6.out⟩, by decide⟩
          · as_aux_lemma =>
            rw [show (((4 : Nat)) : Int) = 4 from rfl]
            have hEl := blk_lt HK.out.e
            have hal := blk_lt HK.out.a
            have hbl := blk_lt HK.out.b
            have hsz : ((wr.alloc (.cells #[.int .i64 3, .int .i64 6, .int .i64 0, .int .u64 3, .int .u64 4, .int .u64 2, .int .u64 4, .slice (some ⟨E, 0, none⟩) 2 2, .bool false, .int .u64 0, .int .u64 0, .int .u64 0, .int .u64 0, .string ⟨#[]⟩] 27)).alloc (.cells #[] 34)).heap.size = wr.heap.size + 2 := by rw [World.size_alloc, World.size_alloc]
            have hwp : Below wr.heap.size wr ((wr.alloc (.cells #[.int .i64 3, .int .i64 6, .int .i64 0, .int .u64 3, .int .u64 4, .int .u64 2, .int .u64 4, .slice (some ⟨E, 0, none⟩) 2 2, .bool false, .int .u64 0, .int .u64 0, .int .u64 0, .int .u64 0, .string ⟨#[]⟩] 27)).alloc (.cells #[] 34)) := ((Below.refl _ wr).alloc (Nat.le_refl _) _).alloc (by rw [World.size_alloc]; omega) _
            have hm0 : ((wr.alloc (.cells #[.int .i64 3, .int .i64 6, .int .i64 0, .int .u64 3, .int .u64 4, .int .u64 2, .int .u64 4, .slice (some ⟨E, 0, none⟩) 2 2, .bool false, .int .u64 0, .int .u64 0, .int .u64 0, .int .u64 0, .string ⟨#[]⟩] 27)).alloc (.cells #[] 34)).heap[wr.heap.size]? = some (.cells #[.int .i64 3, .int .i64 6, .int .i64 0, .int .u64 3, .int .u64 4, .int .u64 2, .int .u64 4, .slice (some ⟨E, 0, none⟩) 2 2, .bool false, .int .u64 0, .int .u64 0, .int .u64 0, .int .u64 0, .string ⟨#[]⟩] 27 (0, 0)) := blk_alloc (blk_new wr _) _
            have hz0 : ((wr.alloc (.cells #[.int .i64 3, .int .i64 6, .int .i64 0, .int .u64 3, .int .u64 4, .int .u64 2, .int .u64 4, .slice (some ⟨E, 0, none⟩) 2 2, .bool false, .int .u64 0, .int .u64 0, .int .u64 0, .int .u64 0, .string ⟨#[]⟩] 27)).alloc (.cells #[] 34)).heap[wr.heap.size + 1]? = some (.cells #[] 34 (0, 0)) := by
              have := blk_new (wr.alloc (.cells #[.int .i64 3, .int .i64 6, .int .i64 0, .int .u64 3, .int .u64 4, .int .u64 2, .int .u64 4, .slice (some ⟨E, 0, none⟩) 2 2, .bool false, .int .u64 0, .int .u64 0, .int .u64 0, .int .u64 0, .string ⟨#[]⟩] 27)) (.cells #[] 34 (0, 0))
              rwa [World.size_alloc] at this
            have hw0 : ((wr.alloc (.cells #[.int .i64 3, .int .i64 6, .int .i64 0, .int .u64 3, .int .u64 4, .int .u64 2, .int .u64 4, .slice (some ⟨E, 0, none⟩) 2 2, .bool false, .int .u64 0, .int .u64 0, .int .u64 0, .int .u64 0, .string ⟨#[]⟩] 27)).alloc (.cells #[] 34)).ownsRow (wr.heap.size + 1) 34 3 (.slice (some ⟨wr.heap.size + 1, 0, none⟩) 0 0) 0 [] := ⟨rfl, .inr ⟨wr.heap.size + 1, 0, #[], rfl, Nat.le_refl _, hz0, Nat.le_refl _, Nat.zero_le _, rfl, rfl⟩⟩
            have hn0 : ((wr.alloc (.cells #[.int .i64 3, .int .i64 6, .int .i64 0, .int .u64 3, .int .u64 4, .int .u64 2, .int .u64 4, .slice (some ⟨E, 0, none⟩) 2 2, .bool false, .int .u64 0, .int .u64 0, .int .u64 0, .int .u64 0, .string ⟨#[]⟩] 27)).alloc (.cells #[] 34)).heap[E]? = some (.cells #[.int .u64 2, .int .u64 5, .string ⟨#[97]⟩, .int .u64 3, .int .u64 6, .string ⟨#[]⟩] 34 (0, 0)) := blk_below hwp hEl HK.out.e
            have HSZ := Lib.hid hsz
            have HWP := Lib.hid hwp
            have HM0 := Lib.hid hm0
            have HW0 := Lib.hid hw0
            have HN0 := Lib.hid hn0
            clear hsz hwp hm0 hz0 hw0 hn0
            obtain ⟨i0, hi, hz0, hz1, hz2⟩ := info_parts info34
            have a0 : wr.cell? ⟨a, 0, none⟩ = some (.int .i64 3) := blk_cell HK.out.a 0
            have a1 : wr.cell? ⟨a, 1, none⟩ = some (.int .i64 6) := blk_cell HK.out.a 1
            have a2 : wr.cell? ⟨a, 2, none⟩ = some (.int .i64 0) := blk_cell HK.out.a 2
            have a3 : wr.cell? ⟨a, 3, none⟩ = some (.int .u64 3) := blk_cell HK.out.a 3
            have a4 : wr.cell? ⟨a, 4, none⟩ = some (.int .u64 4) := blk_cell HK.out.a 4
            have a5 : wr.cell? ⟨a, 5, none⟩ = some (.int .u64 2) := blk_cell HK.out.a 5
            have a6 : wr.cell? ⟨a, 6, none⟩ = some (.int .u64 4) := blk_cell HK.out.a 6
            have a7 : wr.cell? ⟨a, 7, none⟩ = some (.slice (some ⟨E, 0, none⟩) 2 2) := blk_cell HK.out.a 7
            have a8 : wr.cell? ⟨a, 8, none⟩ = some (.bool false) := blk_cell HK.out.a 8
            have a9 : wr.cell? ⟨a, 9, none⟩ = some (.int .u64 0) := blk_cell HK.out.a 9
            have a10 : wr.cell? ⟨a, 10, none⟩ = some (.int .u64 0) := blk_cell HK.out.a 10
            have a11 : wr.cell? ⟨a, 11, none⟩ = some (.int .u64 0) := blk_cell HK.out.a 11
            have a12 : wr.cell? ⟨a, 12, none⟩ = some (.int .u64 0) := blk_cell HK.out.a 12
            have a13 : wr.cell? ⟨a, 13, none⟩ = some (.string ⟨#[]⟩) := blk_cell HK.out.a 13
            go_wp2_with (at_builtin; refine wpList_append_lies _ rfl _ _ 23 rfl (wr.heap.size + 1) 34 i0 (.agg #[.int .u64 0, .int .u64 0, .string ⟨#[]⟩]) 3 32 Try.underlying23 hi hz0 hz1 hz2 rfl (by decide) (.slice (some ⟨wr.heap.size + 1, 0, none⟩) 0 0) 0 [] rfl HW0.out ⟨E, 0, none⟩ 2 2 (#[.int .u64 2, .int .u64 5, .string ⟨#[97]⟩, .int .u64 3, .int .u64 6, .string ⟨#[]⟩] : Array Value).toList rfl rfl (World.news_of_block HN0.out) ents_one (by decide) (by decide) (by decide) (by have := HSZ.out; omega) _ rfl ?_
                         intro g2 cap2 w3 hown hgrow hat hlt3
                         have hb3 := grown_below (r := wr.heap.size + 1) hgrow (by have := HSZ.out; omega)
                         have hmsg := blk_below hb3 (Nat.lt_succ_self _) HM0.out
                         have HMSG := Lib.hid hmsg
                         have hWW : Below wr.heap.size wr w3 := HWP.out.trans (hb3.mono (Nat.le_succ _))
                         have HBW := Lib.hid hWW
                         have hg2 := (own_cells hown).1
                         have hMg : ¬ wr.heap.size = g2 := by omega
                         have hgM : ¬ g2 = wr.heap.size := by omega
                         have hcl := (own_cells hown).2
                         have hMlt := blk_lt hmsg
                         have m0 : w3.cell? ⟨wr.heap.size, 0, none⟩ = some (.int .i64 3) := blk_cell hmsg 0
                         have m1 : w3.cell? ⟨wr.heap.size, 1, none⟩ = some (.int .i64 6) := blk_cell hmsg 1
                         have m2 : w3.cell? ⟨wr.heap.size, 2, none⟩ = some (.int .i64 0) := blk_cell hmsg 2
                         have m3 : w3.cell? ⟨wr.heap.size, 3, none⟩ = some (.int .u64 3) := blk_cell hmsg 3
                         have m4 : w3.cell? ⟨wr.heap.size, 4, none⟩ = some (.int .u64 4) := blk_cell hmsg 4
                         have m5 : w3.cell? ⟨wr.heap.size, 5, none⟩ = some (.int .u64 2) := blk_cell hmsg 5
                         have m6 : w3.cell? ⟨wr.heap.size, 6, none⟩ = some (.int .u64 4) := blk_cell hmsg 6
                         have m7 : w3.cell? ⟨wr.heap.size, 7, none⟩ = some (.slice (some ⟨E, 0, none⟩) 2 2) := blk_cell hmsg 7
                         have m8 : w3.cell? ⟨wr.heap.size, 8, none⟩ = some (.bool false) := blk_cell hmsg 8
                         have m9 : w3.cell? ⟨wr.heap.size, 9, none⟩ = some (.int .u64 0) := blk_cell hmsg 9
                         have m10 : w3.cell? ⟨wr.heap.size, 10, none⟩ = some (.int .u64 0) := blk_cell hmsg 10
                         have m11 : w3.cell? ⟨wr.heap.size, 11, none⟩ = some (.int .u64 0) := blk_cell hmsg 11
                         have m12 : w3.cell? ⟨wr.heap.size, 12, none⟩ = some (.int .u64 0) := blk_cell hmsg 12
                         have m13 : w3.cell? ⟨wr.heap.size, 13, none⟩ = some (.string ⟨#[]⟩) := blk_cell hmsg 13
                         have f2 : w3.frozen? ⟨wr.heap.size, 2, none⟩ = false := blk_frozen hmsg 2
                         have f7 : w3.frozen? ⟨wr.heap.size, 7, none⟩ = false := blk_frozen hmsg 7
                         have HOWN := Lib.hid hown
                         clear a0 a1 a2 a3 a4 a5 a6 a7 a8 a9 a10 a11 a12 a13 hi hz0 hz1 hz2 hown hgrow hat hb3 hcl hWW hmsg)
            clear m0 m1 m2 m3 m4 m5 m6 m7 m8 m9 m10 m11 m12 m13
            have hmF : ((w3.setCell ⟨wr.heap.size, 7, none⟩ (.slice (some ⟨g2, 0, none⟩) 2 cap2)).setCell ⟨wr.heap.size, 2, none⟩ (.int .i64 6)).heap[wr.heap.size]? = some (.cells (mgCells mk4 (.slice (some ⟨g2, 0, none⟩) 2 cap2)) 27 (0, 0)) := blk_set (blk_set HMSG.out 7 _) 2 _
            have hent : EntsAt ((w3.setCell ⟨wr.heap.size, 7, none⟩ (.slice (some ⟨g2, 0, none⟩) 2 cap2)).setCell ⟨wr.heap.size, 2, none⟩ (.int .i64 6)) (.slice (some ⟨g2, 0, none⟩) 2 cap2) mk4.es := own_ents (B := wr.heap.size + 1) (own_set (own_set HOWN.out ⟨wr.heap.size, 7, none⟩ (Nat.lt_succ_self _) _) ⟨wr.heap.size, 2, none⟩ (Nat.lt_succ_self _) _)
            have hkc : KC w E a b c ((w3.setCell ⟨wr.heap.size, 7, none⟩ (.slice (some ⟨g2, 0, none⟩) 2 cap2)).setCell ⟨wr.heap.size, 2, none⟩ (.int .i64 6)) := HK.out.step ((HBW.out.setCell (p := ⟨wr.heap.size, 7, none⟩) (Nat.le_refl _) _).setCell (p := ⟨wr.heap.size, 2, none⟩) (Nat.le_refl _) _)
            generalize hW : World.setCell _ _ _ = WF at hmF hent hkc ⊢
            clear hW
            have MF := Lib.hid hmF
            have EF := Lib.hid hent
            have KF := Lib.hid hkc
            clear hmF hent hkc
            refine (encode_any mk4 (.slice (some ⟨g2, 0, none⟩) 2 cap2) WF (mk4_fit) (fun hh => absurd hh (by rw [mk4_no]; decide)) EF.out).mono ?_
            rintro e w5 ⟨rfl, hb5⟩
            rw [show encB mk4 = [] from if_neg (by rw [mk4_no]; decide), show encE mk4 = 2 from if_neg (by rw [mk4_no]; decide)]
            have M5 := Lib.hid (blk_below hb5 (blk_lt MF.out) MF.out)
            have E5 := Lib.hid (EF.out.below hb5 (Nat.le_refl _))
            have K5 := Lib.hid (KF.out.step hb5)
            clear hb5 MF EF KF
            obtain ⟨c0, c1, c2, c3, c4, c5, c6, c7, c8, c9, c10, c11, c12, c13⟩ := mg_cells M5.out
            go_wp2_with fail
            clear c0 c1 c2 c3 c4 c5 c6 c7 c8 c9 c10 c11 c12 c13
            refine (check_any mk4 (.slice (some ⟨g2, 0, none⟩) 2 cap2) w5 (mk4_fit) E5.out).mono ?_
            rintro e w6 ⟨rfl, hb6⟩
            rw [show (if checkB mk4 = true then (0 : Int) else 2) = 2 from if_neg (by rw [mk4_no]; decide)]
            have K6 := Lib.hid (K5.out.step hb6)
            clear hb6
            go_wp2_with fail
            exact ⟨⟨5, by decide, rfl, K6.out⟩, by decide⟩
          · as_aux_lemma =>
            rw [show (((5 : Nat)) : Int) = 5 from rfl]
            have hEl := blk_lt HK.out.e
            have hal := blk_lt HK.out.a
            have hbl := blk_lt HK.out.b
            have hsz : ((wr.alloc (.cells #[.int .i64 3, .int .i64 6, .int .i64 0, .int .u64 3, .int .u64 4, .int .u64 2, .int .u64 4, .slice (some ⟨E, 0, none⟩) 2 2, .bool false, .int .u64 0, .int .u64 0, .int .u64 0, .int .u64 0, .string ⟨#[]⟩] 27)).alloc (.cells #[] 34)).heap.size = wr.heap.size + 2 := by rw [World.size_alloc, World.size_alloc]
            have hwp : Below wr.heap.size wr ((wr.alloc (.cells #[.int .i64 3, .int .i64 6, .int .i64 0, .int .u64 3, .int .u64 4, .int .u64 2, .int .u64 4, .slice (some ⟨E, 0, none⟩) 2 2, .bool false, .int .u64 0, .int .u64 0, .int .u64 0, .int .u64 0, .string ⟨#[]⟩] 27)).alloc (.cells #[] 34)) := ((Below.refl _ wr).alloc (Nat.le_refl _) _).alloc (by rw [World.size_alloc]; omega) _
            have hm0 : ((wr.alloc (.cells #[.int .i64 3, .int .i64 6, .int .i64 0, .int .u64 3, .int .u64 4, .int .u64 2, .int .u64 4, .slice (some ⟨E, 0, none⟩) 2 2, .bool false, .int .u64 0, .int .u64 0, .int .u64 0, .int .u64 0, .string ⟨#[]⟩] 27)).alloc (.cells #[] 34)).heap[wr.heap.size]? = some (.cells #[.int .i64 3, .int .i64 6, .int .i64 0, .int .u64 3, .int .u64 4, .int .u64 2, .int .u64 4, .slice (some ⟨E, 0, none⟩) 2 2, .bool false, .int .u64 0, .int .u64 0, .int .u64 0, .int .u64 0, .string ⟨#[]⟩] 27 (0, 0)) := blk_alloc (blk_new wr _) _
            have hz0 : ((wr.alloc (.cells #[.int .i64 3, .int .i64 6, .int .i64 0, .int .u64 3, .int .u64 4, .int .u64 2, .int .u64 4, .slice (some ⟨E, 0, none⟩) 2 2, .bool false, .int .u64 0, .int .u64 0, .int .u64 0, .int .u64 0, .string ⟨#[]⟩] 27)).alloc (.cells #[] 34)).heap[wr.heap.size + 1]? = some (.cells #[] 34 (0, 0)) := by
              have := blk_new (wr.alloc (.cells #[.int .i64 3, .int .i64 6, .int .i64 0, .int .u64 3, .int .u64 4, .int .u64 2, .int .u64 4, .slice (some ⟨E, 0, none⟩) 2 2, .bool false, .int .u64 0, .int .u64 0, .int .u64 0, .int .u64 0, .string ⟨#[]⟩] 27)) (.cells #[] 34 (0, 0))
              rwa [World.size_alloc] at this
            have hw0 : ((wr.alloc (.cells #[.int .i64 3, .int .i64 6, .int .i64 0, .int .u64 3, .int .u64 4, .int .u64 2, .int .u64 4, .slice (some ⟨E, 0, none⟩) 2 2, .bool false, .int .u64 0, .int .u64 0, .int .u64 0, .int .u64 0, .string ⟨#[]⟩] 27)).alloc (.cells #[] 34)).ownsRow (wr.heap.size + 1) 34 3 (.slice (some ⟨wr.heap.size + 1, 0, none⟩) 0 0) 0 [] := ⟨rfl, .inr ⟨wr.heap.size + 1, 0, #[], rfl, Nat.le_refl _, hz0, Nat.le_refl _, Nat.zero_le _, rfl, rfl⟩⟩
            have hn0 : ((wr.alloc (.cells #[.int .i64 3, .int .i64 6, .int .i64 0, .int .u64 3, .int .u64 4, .int .u64 2, .int .u64 4, .slice (some ⟨E, 0, none⟩) 2 2, .bool false, .int .u64 0, .int .u64 0, .int .u64 0, .int .u64 0, .string ⟨#[]⟩] 27)).alloc (.cells #[] 34)).heap[E]? = some (.cells #[.int .u64 2, .int .u64 5, .string ⟨#[97]⟩, .int .u64 3, .int .u64 6, .string ⟨#[]⟩] 34 (0, 0)) := blk_below hwp hEl HK.out.e
            have HSZ := Lib.hid hsz
            have HWP := Lib.hid hwp
            have HM0 := Lib.hid hm0
            have HW0 := Lib.hid hw0
            have HN0 := Lib.hid hn0
            clear hsz hwp hm0 hz0 hw0 hn0
            obtain ⟨i0, hi, hz0, hz1, hz2⟩ := info_parts info34
            have a0 : wr.cell? ⟨a, 0, none⟩ = some (.int .i64 3) := blk_cell HK.out.a 0
            have a1 : wr.cell? ⟨a, 1, none⟩ = some (.int .i64 6) := blk_cell HK.out.a 1
            have a2 : wr.cell? ⟨a, 2, none⟩ = some (.int .i64 0) := blk_cell HK.out.a 2
            have a3 : wr.cell? ⟨a, 3, none⟩ = some (.int .u64 3) := blk_cell HK.out.a 3
            have a4 : wr.cell? ⟨a, 4, none⟩ = some (.int .u64 4) := blk_cell HK.out.a 4
            have a5 : wr.cell? ⟨a, 5, none⟩ = some (.int .u64 2) := blk_cell HK.out.a 5
            have a6 : wr.cell? ⟨a, 6, none⟩ = some (.int .u64 4) := blk_cell HK.out.a 6
            have a7 : wr.cell? ⟨a, 7, none⟩ = some (.slice (some ⟨E, 0, none⟩) 2 2) := blk_cell HK.out.a 7
            have a8 : wr.cell? ⟨a, 8, none⟩ = some (.bool false) := blk_cell HK.out.a 8
            have a9 : wr.cell? ⟨a, 9, none⟩ = some (.int .u64 0) := blk_cell HK.out.a 9
            have a10 : wr.cell? ⟨a, 10, none⟩ = some (.int .u64 0) := blk_cell HK.out.a 10
            have a11 : wr.cell? ⟨a, 11, none⟩ = some (.int .u64 0) := blk_cell HK.out.a 11
            have a12 : wr.cell? ⟨a, 12, none⟩ = some (.int .u64 0) := blk_cell HK.out.a 12
            have a13 : wr.cell? ⟨a, 13, none⟩ = some (.string ⟨#[]⟩) := blk_cell HK.out.a 13
            go_wp2_with (at_builtin; refine wpList_append_lies _ rfl _ _ 23 rfl (wr.heap.size + 1) 34 i0 (.agg #[.int .u64 0, .int .u64 0, .string ⟨#[]⟩]) 3 32 Try.underlying23 hi hz0 hz1 hz2 rfl (by decide) (.slice (some ⟨wr.heap.size + 1, 0, none⟩) 0 0) 0 [] rfl HW0.out ⟨E, 0, none⟩ 2 2 (#[.int .u64 2, .int .u64 5, .string ⟨#[97]⟩, .int .u64 3, .int .u64 6, .string ⟨#[]⟩] : Array Value).toList rfl rfl (World.news_of_block HN0.out) ents_one (by decide) (by decide) (by decide) (by have := HSZ.out; omega) _ rfl ?_
                         intro g2 cap2 w3 hown hgrow hat hlt3
                         have hb3 := grown_below (r := wr.heap.size + 1) hgrow (by have := HSZ.out; omega)
                         have hmsg := blk_below hb3 (Nat.lt_succ_self _) HM0.out
                         have HMSG := Lib.hid hmsg
                         have hWW : Below wr.heap.size wr w3 := HWP.out.trans (hb3.mono (Nat.le_succ _))
                         have HBW := Lib.hid hWW
                         have hg2 := (own_cells hown).1
                         have hMg : ¬ wr.heap.size = g2 := by omega
                         have hgM : ¬ g2 = wr.heap.size := by omega
                         have hcl := (own_cells hown).2
                         have hMlt := blk_lt hmsg
                         have m0 : w3.cell? ⟨wr.heap.size, 0, none⟩ = some (.int .i64 3) := blk_cell hmsg 0
                         have m1 : w3.cell? ⟨wr.heap.size, 1, none⟩ = some (.int .i64 6) := blk_cell hmsg 1
                         have m2 : w3.cell? ⟨wr.heap.size, 2, none⟩ = some (.int .i64 0) := blk_cell hmsg 2
                         have m3 : w3.cell? ⟨wr.heap.size, 3, none⟩ = some (.int .u64 3) := blk_cell hmsg 3
                         have m4 : w3.cell? ⟨wr.heap.size, 4, none⟩ = some (.int .u64 4) := blk_cell hmsg 4
                         have m5 : w3.cell? ⟨wr.heap.size, 5, none⟩ = some (.int .u64 2) := blk_cell hmsg 5
                         have m6 : w3.cell? ⟨wr.heap.size, 6, none⟩ = some (.int .u64 4) := blk_cell hmsg 6
                         have m7 : w3.cell? ⟨wr.heap.size, 7, none⟩ = some (.slice (some ⟨E, 0, none⟩) 2 2) := blk_cell hmsg 7
                         have m8 : w3.cell? ⟨wr.heap.size, 8, none⟩ = some (.bool false) := blk_cell hmsg 8
                         have m9 : w3.cell? ⟨wr.heap.size, 9, none⟩ = some (.int .u64 0) := blk_cell hmsg 9
                         have m10 : w3.cell? ⟨wr.heap.size, 10, none⟩ = some (.int .u64 0) := blk_cell hmsg 10
                         have m11 : w3.cell? ⟨wr.heap.size, 11, none⟩ = some (.int .u64 0) := blk_cell hmsg 11
                         have m12 : w3.cell? ⟨wr.heap.size, 12, none⟩ = some (.int .u64 0) := blk_cell hmsg 12
                         have m13 : w3.cell? ⟨wr.heap.size, 13, none⟩ = some (.string ⟨#[]⟩) := blk_cell hmsg 13
                         have f3 : w3.frozen? ⟨wr.heap.size, 3, none⟩ = false := blk_frozen hmsg 3
                         have f7 : w3.frozen? ⟨wr.heap.size, 7, none⟩ = false := blk_frozen hmsg 7
                         have HOWN := Lib.hid hown
                         clear a0 a1 a2 a3 a4 a5 a6 a7 a8 a9 a10 a11 a12 a13 hi hz0 hz1 hz2 hown hgrow hat hb3 hcl hWW hmsg)
            clear m0 m1 m2 m3 m4 m5 m6 m7 m8 m9 m10 m11 m12 m13
            have hmF : ((w3.setCell ⟨wr.heap.size, 7, none⟩ (.slice (some ⟨g2, 0, none⟩) 2 cap2)).setCell ⟨wr.heap.size, 3, none⟩ (.int .u64 0)).heap[wr.heap.size]? = some (.cells (mgCells mk5 (.slice (some ⟨g2, 0, none⟩) 2 cap2)) 27 (0, 0)) := blk_set (blk_set HMSG.out 7 _) 3 _
            have hent : EntsAt ((w3.setCell ⟨wr.heap.size, 7, none⟩ (.slice (some ⟨g2, 0, none⟩) 2 cap2)).setCell ⟨wr.heap.size, 3, none⟩ (.int .u64 0)) (.slice (some ⟨g2, 0, none⟩) 2 cap2) mk5.es := own_ents (B := wr.heap.size + 1) (own_set (own_set HOWN.out ⟨wr.heap.size, 7, none⟩ (Nat.lt_succ_self _) _) ⟨wr.heap.size, 3, none⟩ (Nat.lt_succ_self _) _)
            have hkc : KC w E a b c ((w3.setCell ⟨wr.heap.size, 7, none⟩ (.slice (some ⟨g2, 0, none⟩) 2 cap2)).setCell ⟨wr.heap.size, 3, none⟩ (.int .u64 0)) := HK.out.step ((HBW.out.setCell (p := ⟨wr.heap.size, 7, none⟩) (Nat.le_refl _) _).setCell (p := ⟨wr.heap.size, 3, none⟩) (Nat.le_refl _) _)
            generalize hW : World.setCell _ _ _ = WF at hmF hent hkc ⊢
            clear hW
            have MF := Lib.hid hmF
            have EF := Lib.hid hent
            have KF := Lib.hid hkc
            clear hmF hent hkc
            refine (encode_any mk5 (.slice (some ⟨g2, 0, none⟩) 2 cap2) WF (mk5_fit) (fun hh => absurd hh (by rw [mk5_no]; decide)) EF.out).mono ?_
            rintro e w5 ⟨rfl, hb5⟩
            rw [show encB mk5 = [] from if_neg (by rw [mk5_no]; decide), show encE mk5 = 2 from if_neg (by rw [mk5_no]; decide)]
            have M5 := Lib.hid (blk_below hb5 (blk_lt MF.out) MF.out)
            have E5 := Lib.hid (EF.out.below hb5 (Nat.le_refl _))
            have K5 := Lib.hid (KF.out.step hb5)
            clear hb5 MF EF KF
            obtain ⟨c0, c1, c2, c3, c4, c5, c6, c7, c8, c9, c10, c11, c12, c13⟩ := mg_cells M5.out
            go_wp2_with fail
            clear c0 c1 c2 c3 c4 c5 c6 c7 c8 c9 c10 c11 c12 c13
            refine (check_any mk5 (.slice (some ⟨g2, 0, none⟩) 2 cap2) w5 (mk5_fit) E5.out).mono ?_
            rintro e w6 ⟨rfl, hb6⟩
            rw [show (if checkB mk5 = true then (0 : Int) else 2) = 2 from if_neg (by rw [mk5_no]; decide)]
            have K6 := Lib.hid (K5.out.step hb6)
            clear hb6
            go_wp2_with fail
            exact ⟨⟨6, by decide, rfl, K6.out⟩, by decide⟩
          · as_aux_lemma =>
            rw [show (((6 : Nat)) : Int) = 6 from rfl]
            have hEl := blk_lt HK.out.e
            have hal := blk_lt HK.out.a
            have hbl := blk_lt HK.out.b
            have hsz : ((wr.alloc (.cells #[.int .i64 3, .int .i64 6, .int .i64 0, .int .u64 3, .int .u64 4, .int .u64 2, .int .u64 4, .slice (some ⟨E, 0, none⟩) 2 2, .bool false, .int .u64 0, .int .u64 0, .int .u64 0, .int .u64 0, .string ⟨#[]⟩] 27)).alloc (.cells #[] 34)).heap.size = wr.heap.size + 2 := by rw [World.size_alloc, World.size_alloc]
            have hwp : Below wr.heap.size wr ((wr.alloc (.cells #[.int .i64 3, .int .i64 6, .int .i64 0, .int .u64 3, .int .u64 4, .int .u64 2, .int .u64 4, .slice (some ⟨E, 0, none⟩) 2 2, .bool false, .int .u64 0, .int .u64 0, .int .u64 0, .int .u64 0, .string ⟨#[]⟩] 27)).alloc (.cells #[] 34)) := ((Below.refl _ wr).alloc (Nat.le_refl _) _).alloc (by rw [World.size_alloc]; omega) _
            have hm0 : ((wr.alloc (.cells #[.int .i64 3, .int .i64 6, .int .i64 0, .int .u64 3, .int .u64 4, .int .u64 2, .int .u64 4, .slice (some ⟨E, 0, none⟩) 2 2, .bool false, .int .u64 0, .int .u64 0, .int .u64 0, .int .u64 0, .string ⟨#[]⟩] 27)).alloc (.cells #[] 34)).heap[wr.heap.size]? = some (.cells #[.int .i64 3, .int .i64 6, .int .i64 0, .int .u64 3, .int .u64 4, .int .u64 2, .int .u64 4, .slice (some ⟨E, 0, none⟩) 2 2, .bool false, .int .u64 0, .int .u64 0, .int .u64 0, .int .u64 0, .string ⟨#[]⟩] 27 (0, 0)) := blk_alloc (blk_new wr _) _
            have hz0 : ((wr.alloc (.cells #[.int .i64 3, .int .i64 6, .int .i64 0, .int .u64 3, .int .u64 4, .int .u64 2, .int .u64 4, .slice (some ⟨E, 0, none⟩) 2 2, .bool false, .int .u64 0, .int .u64 0, .int .u64 0, .int .u64 0, .string ⟨#[]⟩] 27)).alloc (.cells #[] 34)).heap[wr.heap.size + 1]? = some (.cells #[] 34 (0, 0)) := by
              have := blk_new (wr.alloc (.cells #[.int .i64 3, .int .i64 6, .int .i64 0, .int .u64 3, .int .u64 4, .int .u64 2, .int .u64 4, .slice (some ⟨E, 0, none⟩) 2 2, .bool false, .int .u64 0, .int .u64 0, .int .u64 0, .int .u64 0, .string ⟨#[]⟩] 27)) (.cells #[] 34 (0, 0))
              rwa [World.size_alloc] at this
            have hw0 : ((wr.alloc (.cells #[.int .i64 3, .int .i64 6, .int .i64 0, .int .u64 3, .int .u64 4, .int .u64 2, .int .u64 4, .slice (some ⟨E, 0, none⟩) 2 2, .bool false, .int .u64 0, .int .u64 0, .int .u64 0, .int .u64 0, .string ⟨#[]⟩] 27)).alloc (.cells #[] 34)).ownsRow (wr.heap.size + 1) 34 3 (.slice (some ⟨wr.heap.size + 1, 0, none⟩) 0 0) 0 [] := ⟨rfl, .inr ⟨wr.heap.size + 1, 0, #[], rfl, Nat.le_refl _, hz0, Nat.le_refl _, Nat.zero_le _, rfl, rfl⟩⟩
            have hn0 : ((wr.alloc (.cells #[.int .i64 3, .int .i64 6, .int .i64 0, .int .u64 3, .int .u64 4, .int .u64 2, .int .u64 4, .slice (some ⟨E, 0, none⟩) 2 2, .bool false, .int .u64 0, .int .u64 0, .int .u64 0, .int .u64 0, .string ⟨#[]⟩] 27)).alloc (.cells #[] 34)).heap[E]? = some (.cells #[.int .u64 2, .int .u64 5, .string ⟨#[97]⟩, .int .u64 3, .int .u64 6, .string ⟨#[]⟩] 34 (0, 0)) := blk_below hwp hEl HK.out.e
            have HSZ := Lib.hid hsz
            have HWP := Lib.hid hwp
            have HM0 := Lib.hid hm0
            have HW0 := Lib.hid hw0
            have HN0 := Lib.hid hn0
            clear hsz hwp hm0 hz0 hw0 hn0
            obtain ⟨i0, hi, hz0, hz1, hz2⟩ := info_parts info34
            have a0 : wr.cell? ⟨a, 0, none⟩ = some (.int .i64 3) := blk_cell HK.out.a 0
            have a1 : wr.cell? ⟨a, 1, none⟩ = some (.int .i64 6) := blk_cell HK.out.a 1
            have a2 : wr.cell? ⟨a, 2, none⟩ = some (.int .i64 0) := blk_cell HK.out.a 2
            have a3 : wr.cell? ⟨a, 3, none⟩ = some (.int .u64 3) := blk_cell HK.out.a 3
            have a4 : wr.cell? ⟨a, 4, none⟩ = some (.int .u64 4) := blk_cell HK.out.a 4
            have a5 : wr.cell? ⟨a, 5, none⟩ = some (.int .u64 2) := blk_cell HK.out.a 5
            have a6 : wr.cell? ⟨a, 6, none⟩ = some (.int .u64 4) := blk_cell HK.out.a 6
            have a7 : wr.cell? ⟨a, 7, none⟩ = some (.slice (some ⟨E, 0, none⟩) 2 2) := blk_cell HK.out.a 7
            have a8 : wr.cell? ⟨a, 8, none⟩ = some (.bool false) := blk_cell HK.out.a 8
            have a9 : wr.cell? ⟨a, 9, none⟩ = some (.int .u64 0) := blk_cell HK.out.a 9
            have a10 : wr.cell? ⟨a, 10, none⟩ = some (.int .u64 0) := blk_cell HK.out.a 10
            have a11 : wr.cell? ⟨a, 11, none⟩ = some (.int .u64 0) := blk_cell HK.out.a 11
            have a12 : wr.cell? ⟨a, 12, none⟩ = some (.int .u64 0) := blk_cell HK.out.a 12
            have a13 : wr.cell? ⟨a, 13, none⟩ = some (.string ⟨#[]⟩) := blk_cell HK.out.a 13
            go_wp2_with (at_builtin; refine wpList_append_lies _ rfl _ _ 23 rfl (wr.heap.size + 1) 34 i0 (.agg #[.int .u64 0, .int .u64 0, .string ⟨#[]⟩]) 3 32 Try.underlying23 hi hz0 hz1 hz2 rfl (by decide) (.slice (some ⟨wr.heap.size + 1, 0, none⟩) 0 0) 0 [] rfl HW0.out ⟨E, 0, none⟩ 2 2 (#[.int .u64 2, .int .u64 5, .string ⟨#[97]⟩, .int .u64 3, .int .u64 6, .string ⟨#[]⟩] : Array Value).toList rfl rfl (World.news_of_block HN0.out) ents_one (by decide) (by decide) (by decide) (by have := HSZ.out; omega) _ rfl ?_
                         intro g2 cap2 w3 hown hgrow hat hlt3
                         have hb3 := grown_below (r := wr.heap.size + 1) hgrow (by have := HSZ.out; omega)
                         have hmsg := blk_below hb3 (Nat.lt_succ_self _) HM0.out
                         have HMSG := Lib.hid hmsg
                         have hWW : Below wr.heap.size wr w3 := HWP.out.trans (hb3.mono (Nat.le_succ _))
                         have HBW := Lib.hid hWW
                         have hg2 := (own_cells hown).1
                         have hMg : ¬ wr.heap.size = g2 := by omega
                         have hgM : ¬ g2 = wr.heap.size := by omega
                         have hcl := (own_cells hown).2
                         have hMlt := blk_lt hmsg
                         have m0 : w3.cell? ⟨wr.heap.size, 0, none⟩ = some (.int .i64 3) := blk_cell hmsg 0
                         have m1 : w3.cell? ⟨wr.heap.size, 1, none⟩ = some (.int .i64 6) := blk_cell hmsg 1
                         have m2 : w3.cell? ⟨wr.heap.size, 2, none⟩ = some (.int .i64 0) := blk_cell hmsg 2
                         have m3 : w3.cell? ⟨wr.heap.size, 3, none⟩ = some (.int .u64 3) := blk_cell hmsg 3
                         have m4 : w3.cell? ⟨wr.heap.size, 4, none⟩ = some (.int .u64 4) := blk_cell hmsg 4
                         have m5 : w3.cell? ⟨wr.heap.size, 5, none⟩ = some (.int .u64 2) := blk_cell hmsg 5
                         have m6 : w3.cell? ⟨wr.heap.size, 6, none⟩ = some (.int .u64 4) := blk_cell hmsg 6
                         have m7 : w3.cell? ⟨wr.heap.size, 7, none⟩ = some (.slice (some ⟨E, 0, none⟩) 2 2) := blk_cell hmsg 7
                         have m8 : w3.cell? ⟨wr.heap.size, 8, none⟩ = some (.bool false) := blk_cell hmsg 8
                         have m9 : w3.cell? ⟨wr.heap.size, 9, none⟩ = some (.int .u64 0) := blk_cell hmsg 9
                         have m10 : w3.cell? ⟨wr.heap.size, 10, none⟩ = some (.int .u64 0) := blk_cell hmsg 10
                         have m11 : w3.cell? ⟨wr.heap.size, 11, none⟩ = some (.int .u64 0) := blk_cell hmsg 11
                         have m12 : w3.cell? ⟨wr.heap.size, 12, none⟩ = some (.int .u64 0) := blk_cell hmsg 12
                         have m13 : w3.cell? ⟨wr.heap.size, 13, none⟩ = some (.string ⟨#[]⟩) := blk_cell hmsg 13
                         have f3 : w3.frozen? ⟨wr.heap.size, 3, none⟩ = false := blk_frozen hmsg 3
                         have f7 : w3.frozen? ⟨wr.heap.size, 7, none⟩ = false := blk_frozen hmsg 7
                         have HOWN := Lib.hid hown
                         clear a0 a1 a2 a3 a4 a5 a6 a7 a8 a9 a10 a11 a12 a13 hi hz0 hz1 hz2 hown hgrow hat hb3 hcl hWW hmsg)
            clear m0 m1 m2 m3 m4 m5 m6 m7 m8 m9 m10 m11 m12 m13
            have hmF : ((w3.setCell ⟨wr.heap.size, 7, none⟩ (.slice (some ⟨g2, 0, none⟩) 2 cap2)).setCell ⟨wr.heap.size, 3, none⟩ (.int .u64 1099511627777)).heap[wr.heap.size]? = some (.cells (mgCells mk6 (.slice (some ⟨g2, 0, none⟩) 2 cap2)) 27 (0, 0)) := blk_set (blk_set HMSG.out 7 _) 3 _
            have hent : EntsAt ((w3.setCell ⟨wr.heap.size, 7, none⟩ (.slice (some ⟨g2, 0, none⟩) 2 cap2)).setCell ⟨wr.heap.size, 3, none⟩ (.int .u64 1099511627777)) (.slice (some ⟨g2, 0, none⟩) 2 cap2) mk6.es := own_ents (B := wr.heap.size + 1) (own_set (own_set HOWN.out ⟨wr.heap.size, 7, none⟩ (Nat.lt_succ_self _) _) ⟨wr.heap.size, 3, none⟩ (Nat.lt_succ_self _) _)
            have hkc : KC w E a b c ((w3.setCell ⟨wr.heap.size, 7, none⟩ (.slice (some ⟨g2, 0, none⟩) 2 cap2)).setCell ⟨wr.heap.size, 3, none⟩ (.int .u64 1099511627777)) := HK.out.step ((HBW.out.setCell (p := ⟨wr.heap.size, 7, none⟩) (Nat.le_refl _) _).setCell (p := ⟨wr.heap.size, 3, none⟩) (Nat.le_refl _) _)
            generalize hW : World.setCell _ _ _ = WF at hmF hent hkc ⊢
            clear hW
            have MF := Lib.hid hmF
            have EF := Lib.hid hent
            have KF := Lib.hid hkc
            clear hmF hent hkc
            refine (encode_any mk6 (.slice (some ⟨g2, 0, none⟩) 2 cap2) WF (mk6_fit) (fun hh => absurd hh (by rw [mk6_no]; decide)) EF.out).mono ?_
            rintro e w5 ⟨rfl, hb5⟩
            rw [show encB mk6 = [] from if_neg (by rw [mk6_no]; decide), show encE mk6 = 2 from if_neg (by rw [mk6_no]; decide)]
            have M5 := Lib.hid (blk_below hb5 (blk_lt MF.out) MF.out)
            have E5 := Lib.hid (EF.out.below hb5 (Nat.le_refl _))
            have K5 := Lib.hid (KF.out.step hb5)
            clear hb5 MF EF KF
            obtain ⟨c0, c1, c2, c3, c4, c5, c6, c7, c8, c9, c10, c11, c12, c13⟩ := mg_cells M5.out
            go_wp2_with fail
            clear c0 c1 c2 c3 c4 c5 c6 c7 c8 c9 c10 c11 c12 c13
            refine (check_any mk6 (.slice (some ⟨g2, 0, none⟩) 2 cap2) w5 (mk6_fit) E5.out).mono ?_
            rintro e w6 ⟨rfl, hb6⟩
            rw [show (if checkB mk6 = true then (0 : Int) else 2) = 2 from if_neg (by rw [mk6_no]; decide)]
            have K6 := Lib.hid (K5.out.step hb6)
            clear hb6
            go_wp2_with fail
            exact ⟨⟨7, by decide, rfl, K6.out⟩, by decide⟩
          · as_aux_lemma =>
            rw [show (((7 : Nat)) : Int) = 7 from rfl]
            have hEl := blk_lt HK.out.e
            have hal := blk_lt HK.out.a
            have hbl := blk_lt HK.out.b
            have hsz : ((wr.alloc (.cells #[.int .i64 3, .int .i64 6, .int .i64 0, .int .u64 3, .int .u64 4, .int .u64 2, .int .u64 4, .slice (some ⟨E, 0, none⟩) 2 2, .bool false, .int .u64 0, .int .u64 0, .int .u64 0, .int .u64 0, .string ⟨#[]⟩] 27)).alloc (.cells #[] 34)).heap.size = wr.heap.size + 2 := by rw [World.size_alloc, World.size_alloc]
            have hwp : Below wr.heap.size wr ((wr.alloc (.cells #[.int .i64 3, .int .i64 6, .int .i64 0, .int .u64 3, .int .u64 4, .int .u64 2, .int .u64 4, .slice (some ⟨E, 0, none⟩) 2 2, .bool false, .int .u64 0, .int .u64 0, .int .u64 0, .int .u64 0, .string ⟨#[]⟩] 27)).alloc (.cells #[] 34)) := ((Below.refl _ wr).alloc (Nat.le_refl _) _).alloc (by rw [World.size_alloc]; omega) _
            have hm0 : ((wr.alloc (.cells #[.int .i64 3, .int .i64 6, .int .i64 0, .int .u64 3, .int .u64 4, .int .u64 2, .int .u64 4, .slice (some ⟨E, 0, none⟩) 2 2, .bool false, .int .u64 0, .int .u64 0, .int .u64 0, .int .u64 0, .string ⟨#[]⟩] 27)).alloc (.cells #[] 34)).heap[wr.heap.size]? = some (.cells #[.int .i64 3, .int .i64 6, .int .i64 0, .int .u64 3, .int .u64 4, .int .u64 2, .int .u64 4, .slice (some ⟨E, 0, none⟩) 2 2, .bool false, .int .u64 0, .int .u64 0, .int .u64 0, .int .u64 0, .string ⟨#[]⟩] 27 (0, 0)) := blk_alloc (blk_new wr _) _
            have hz0 : ((wr.alloc (.cells #[.int .i64 3, .int .i64 6, .int .i64 0, .int .u64 3, .int .u64 4, .int .u64 2, .int .u64 4, .slice (some ⟨E, 0, none⟩) 2 2, .bool false, .int .u64 0, .int .u64 0, .int .u64 0, .int .u64 0, .string ⟨#[]⟩] 27)).alloc (.cells #[] 34)).heap[wr.heap.size + 1]? = some (.cells #[] 34 (0, 0)) := by
              have := blk_new (wr.alloc (.cells #[.int .i64 3, .int .i64 6, .int .i64 0, .int .u64 3, .int .u64 4, .int .u64 2, .int .u64 4, .slice (some ⟨E, 0, none⟩) 2 2, .bool false, .int .u64 0, .int .u64 0, .int .u64 0, .int .u64 0, .string ⟨#[]⟩] 27)) (.cells #[] 34 (0, 0))
              rwa [World.size_alloc] at this
            have hw0 : ((wr.alloc (.cells #[.int .i64 3, .int .i64 6, .int .i64 0, .int .u64 3, .int .u64 4, .int .u64 2, .int .u64 4, .slice (some ⟨E, 0, none⟩) 2 2, .bool false, .int .u64 0, .int .u64 0, .int .u64 0, .int .u64 0, .string ⟨#[]⟩] 27)).alloc (.cells #[] 34)).ownsRow (wr.heap.size + 1) 34 3 (.slice (some ⟨wr.heap.size + 1, 0, none⟩) 0 0) 0 [] := ⟨rfl, .inr ⟨wr.heap.size + 1, 0, #[], rfl, Nat.le_refl _, hz0, Nat.le_refl _, Nat.zero_le _, rfl, rfl⟩⟩
            have hn0 : ((wr.alloc (.cells #[.int .i64 3, .int .i64 6, .int .i64 0, .int .u64 3, .int .u64 4, .int .u64 2, .int .u64 4, .slice (some ⟨E, 0, none⟩) 2 2, .bool false, .int .u64 0, .int .u64 0, .int .u64 0, .int .u64 0, .string ⟨#[]⟩] 27)).alloc (.cells #[] 34)).heap[E]? = some (.cells #[.int .u64 2, .int .u64 5, .string ⟨#[97]⟩, .int .u64 3, .int .u64 6, .string ⟨#[]⟩] 34 (0, 0)) := blk_below hwp hEl HK.out.e
            have HSZ := Lib.hid hsz
            have HWP := Lib.hid hwp
            have HM0 := Lib.hid hm0
            have HW0 := Lib.hid hw0
            have HN0 := Lib.hid hn0
            clear hsz hwp hm0 hz0 hw0 hn0
            obtain ⟨i0, hi, hz0, hz1, hz2⟩ := info_parts info34
            have a0 : wr.cell? ⟨a, 0, none⟩ = some (.int .i64 3) := blk_cell HK.out.a 0
            have a1 : wr.cell? ⟨a, 1, none⟩ = some (.int .i64 6) := blk_cell HK.out.a 1
            have a2 : wr.cell? ⟨a, 2, none⟩ = some (.int .i64 0) := blk_cell HK.out.a 2
            have a3 : wr.cell? ⟨a, 3, none⟩ = some (.int .u64 3) := blk_cell HK.out.a 3
            have a4 : wr.cell? ⟨a, 4, none⟩ = some (.int .u64 4) := blk_cell HK.out.a 4
            have a5 : wr.cell? ⟨a, 5, none⟩ = some (.int .u64 2) := blk_cell HK.out.a 5
            have a6 : wr.cell? ⟨a, 6, none⟩ = some (.int .u64 4) := blk_cell HK.out.a 6
            have a7 : wr.cell? ⟨a, 7, none⟩ = some (.slice (some ⟨E, 0, none⟩) 2 2) := blk_cell HK.out.a 7
            have a8 : wr.cell? ⟨a, 8, none⟩ = some (.bool false) := blk_cell HK.out.a 8
            have a9 : wr.cell? ⟨a, 9, none⟩ = some (.int .u64 0) := blk_cell HK.out.a 9
            have a10 : wr.cell? ⟨a, 10, none⟩ = some (.int .u64 0) := blk_cell HK.out.a 10
            have a11 : wr.cell? ⟨a, 11, none⟩ = some (.int .u64 0) := blk_cell HK.out.a 11
            have a12 : wr.cell? ⟨a, 12, none⟩ = some (.int .u64 0) := blk_cell HK.out.a 12
            have a13 : wr.cell? ⟨a, 13, none⟩ = some (.string ⟨#[]⟩) := blk_cell HK.out.a 13
            go_wp2_with (at_builtin; refine wpList_append_lies _ rfl _ _ 23 rfl (wr.heap.size + 1) 34 i0 (.agg #[.int .u64 0, .int .u64 0, .string ⟨#[]⟩]) 3 32 Try.underlying23 hi hz0 hz1 hz2 rfl (by decide) (.slice (some ⟨wr.heap.size + 1, 0, none⟩) 0 0) 0 [] rfl HW0.out ⟨E, 0, none⟩ 2 2 (#[.int .u64 2, .int .u64 5, .string ⟨#[97]⟩, .int .u64 3, .int .u64 6, .string ⟨#[]⟩] : Array Value).toList rfl rfl (World.news_of_block HN0.out) ents_one (by decide) (by decide) (by decide) (by have := HSZ.out; omega) _ rfl ?_
                         intro g2 cap2 w3 hown hgrow hat hlt3
                         have hb3 := grown_below (r := wr.heap.size + 1) hgrow (by have := HSZ.out; omega)
                         have hmsg := blk_below hb3 (Nat.lt_succ_self _) HM0.out
                         have HMSG := Lib.hid hmsg
                         have hWW : Below wr.heap.size wr w3 := HWP.out.trans (hb3.mono (Nat.le_succ _))
                         have HBW := Lib.hid hWW
                         have hg2 := (own_cells hown).1
                         have hMg : ¬ wr.heap.size = g2 := by omega
                         have hgM : ¬ g2 = wr.heap.size := by omega
                         have hcl := (own_cells hown).2
                         have hMlt := blk_lt hmsg
                         have m0 : w3.cell? ⟨wr.heap.size, 0, none⟩ = some (.int .i64 3) := blk_cell hmsg 0
                         have m1 : w3.cell? ⟨wr.heap.size, 1, none⟩ = some (.int .i64 6) := blk_cell hmsg 1
                         have m2 : w3.cell? ⟨wr.heap.size, 2, none⟩ = some (.int .i64 0) := blk_cell hmsg 2
                         have m3 : w3.cell? ⟨wr.heap.size, 3, none⟩ = some (.int .u64 3) := blk_cell hmsg 3
                         have m4 : w3.cell? ⟨wr.heap.size, 4, none⟩ = some (.int .u64 4) := blk_cell hmsg 4
                         have m5 : w3.cell? ⟨wr.heap.size, 5, none⟩ = some (.int .u64 2) := blk_cell hmsg 5
                         have m6 : w3.cell? ⟨wr.heap.size, 6, none⟩ = some (.int .u64 4) := blk_cell hmsg 6
                         have m7 : w3.cell? ⟨wr.heap.size, 7, none⟩ = some (.slice (some ⟨E, 0, none⟩) 2 2) := blk_cell hmsg 7
                         have m8 : w3.cell? ⟨wr.heap.size, 8, none⟩ = some (.bool false) := blk_cell hmsg 8
                         have m9 : w3.cell? ⟨wr.heap.size, 9, none⟩ = some (.int .u64 0) := blk_cell hmsg 9
                         have m10 : w3.cell? ⟨wr.heap.size, 10, none⟩ = some (.int .u64 0) := blk_cell hmsg 10
                         have m11 : w3.cell? ⟨wr.heap.size, 11, none⟩ = some (.int .u64 0) := blk_cell hmsg 11
                         have m12 : w3.cell? ⟨wr.heap.size, 12, none⟩ = some (.int .u64 0) := blk_cell hmsg 12
                         have m13 : w3.cell? ⟨wr.heap.size, 13, none⟩ = some (.string ⟨#[]⟩) := blk_cell hmsg 13
                         have f4 : w3.frozen? ⟨wr.heap.size, 4, none⟩ = false := blk_frozen hmsg 4
                         have f7 : w3.frozen? ⟨wr.heap.size, 7, none⟩ = false := blk_frozen hmsg 7
                         have HOWN := Lib.hid hown
                         clear a0 a1 a2 a3 a4 a5 a6 a7 a8 a9 a10 a11 a12 a13 hi hz0 hz1 hz2 hown hgrow hat hb3 hcl hWW hmsg)
            clear m0 m1 m2 m3 m4 m5 m6 m7 m8 m9 m10 m11 m12 m13
            have hmF : ((w3.setCell ⟨wr.heap.size, 7, none⟩ (.slice (some ⟨g2, 0, none⟩) 2 cap2)).setCell ⟨wr.heap.size, 4, none⟩ (.int .u64 5)).heap[wr.heap.size]? = some (.cells (mgCells mk7 (.slice (some ⟨g2, 0, none⟩) 2 cap2)) 27 (0, 0)) := blk_set (blk_set HMSG.out 7 _) 4 _
            have hent : EntsAt ((w3.setCell ⟨wr.heap.size, 7, none⟩ (.slice (some ⟨g2, 0, none⟩) 2 cap2)).setCell ⟨wr.heap.size, 4, none⟩ (.int .u64 5)) (.slice (some ⟨g2, 0, none⟩) 2 cap2) mk7.es := own_ents (B := wr.heap.size + 1) (own_set (own_set HOWN.out ⟨wr.heap.size, 7, none⟩ (Nat.lt_succ_self _) _) ⟨wr.heap.size, 4, none⟩ (Nat.lt_succ_self _) _)
            have hkc : KC w E a b c ((w3.setCell ⟨wr.heap.size, 7, none⟩ (.slice (some ⟨g2, 0, none⟩) 2 cap2)).setCell ⟨wr.heap.size, 4, none⟩ (.int .u64 5)) := HK.out.step ((HBW.out.setCell (p := ⟨wr.heap.size, 7, none⟩) (Nat.le_refl _) _).setCell (p := ⟨wr.heap.size, 4, none⟩) (Nat.le_refl _) _)
            generalize hW : World.setCell _ _ _ = WF at hmF hent hkc ⊢
            clear hW
            have MF := Lib.hid hmF
            have EF := Lib.hid hent
            have KF := Lib.hid hkc
            clear hmF hent hkc
            refine (encode_any mk7 (.slice (some ⟨g2, 0, none⟩) 2 cap2) WF (mk7_fit) (fun hh => absurd hh (by rw [mk7_no]; decide)) EF.out).mono ?_
            rintro e w5 ⟨rfl, hb5⟩
            rw [show encB mk7 = [] from if_neg (by rw [mk7_no]; decide), show encE mk7 = 2 from if_neg (by rw [mk7_no]; decide)]
            have M5 := Lib.hid (blk_below hb5 (blk_lt MF.out) MF.out)
            have E5 := Lib.hid (EF.out.below hb5 (Nat.le_refl _))
            have K5 := Lib.hid (KF.out.step hb5)
            clear hb5 MF EF KF
            obtain ⟨c0, c1, c2, c3, c4, c5, c6, c7, c8, c9, c10, c11, c12, c13⟩ := mg_cells M5.out
            go_wp2_with fail
            clear c0 c1 c2 c3 c4 c5 c6 c7 c8 c9 c10 c11 c12 c13
            refine (check_any mk7 (.slice (some ⟨g2, 0, none⟩) 2 cap2) w5 (mk7_fit) E5.out).mono ?_
            rintro e w6 ⟨rfl, hb6⟩
            rw [show (if checkB mk7 = true then (0 : Int) else 2) = 2 from if_neg (by rw [mk7_no]; decide)]
            have K6 := Lib.hid (K5.out.step hb6)
            clear hb6
            go_wp2_with fail
            exact ⟨⟨8, by decide, rfl, K6.out⟩, by decide⟩
          · as_aux_lemma =>
            rw [show (((8 : Nat)) : Int) = 8 from rfl]
            have hEl := blk_lt HK.out.e
            have hal := blk_lt HK.out.a
            have hbl := blk_lt HK.out.b
            have hsz : ((wr.alloc (.cells #[.int .i64 3, .int .i64 6, .int .i64 0, .int .u64 3, .int .u64 4, .int .u64 2, .int .u64 4, .slice (some ⟨E, 0, none⟩) 2 2, .bool false, .int .u64 0, .int .u64 0, .int .u64 0, .int .u64 0, .string ⟨#[]⟩] 27)).alloc (.cells #[] 34)).heap.size = wr.heap.size + 2 := by rw [World.size_alloc, World.size_alloc]
            have hwp : Below wr.heap.size wr ((wr.alloc (.cells #[.int .i64 3, .int .i64 6, .int .i64 0, .int .u64 3, .int .u64 4, .int .u64 2, .int .u64 4, .slice (some ⟨E, 0, none⟩) 2 2, .bool false, .int .u64 0, .int .u64 0, .int .u64 0, .int .u64 0, .string ⟨#[]⟩] 27)).alloc (.cells #[] 34)) := ((Below.refl _ wr).alloc (Nat.le_refl _) _).alloc (by rw [World.size_alloc]; omega) _
            have hm0 : ((wr.alloc (.cells #[.int .i64 3, .int .i64 6, .int .i64 0, .int .u64 3, .int .u64 4, .int .u64 2, .int .u64 4, .slice (some ⟨E, 0, none⟩) 2 2, .bool false, .int .u64 0, .int .u64 0, .int .u64 0, .int .u64 0, .string ⟨#[]⟩] 27)).alloc (.cells #[] 34)).heap[wr.heap.size]? = some (.cells #[.int .i64 3, .int .i64 6, .int .i64 0, .int .u64 3, .int .u64 4, .int .u64 2, .int .u64 4, .slice (some ⟨E, 0, none⟩) 2 2, .bool false, .int .u64 0, .int .u64 0, .int .u64 0, .int .u64 0, .string ⟨#[]⟩] 27 (0, 0)) := blk_alloc (blk_new wr _) _
            have hz0 : ((wr.alloc (.cells #[.int .i64 3, .int .i64 6, .int .i64 0, .int .u64 3, .int .u64 4, .int .u64 2, .int .u64 4, .slice (some ⟨E, 0, none⟩) 2 2, .bool false, .int .u64 0, .int .u64 0, .int .u64 0, .int .u64 0, .string ⟨#[]⟩] 27)).alloc (.cells #[] 34)).heap[wr.heap.size + 1]? = some (.cells #[] 34 (0, 0)) := by
              have := blk_new (wr.alloc (.cells #[.int .i64 3, .int .i64 6, .int .i64 0, .int .u64 3, .int .u64 4, .int .u64 2, .int .u64 4, .slice (some ⟨E, 0, none⟩) 2 2, .bool false, .int .u64 0, .int .u64 0, .int .u64 0, .int .u64 0, .string ⟨#[]⟩] 27)) (.cells #[] 34 (0, 0))
              rwa [World.size_alloc] at this
            have hw0 : ((wr.alloc (.cells #[.int .i64 3, .int .i64 6, .int .i64 0, .int .u64 3, .int .u64 4, .int .u64 2, .int .u64 4, .slice (some ⟨E, 0, none⟩) 2 2, .bool false, .int .u64 0, .int .u64 0, .int .u64 0, .int .u64 0, .string ⟨#[]⟩] 27)).alloc (.cells #[] 34)).ownsRow (wr.heap.size + 1) 34 3 (.slice (some ⟨wr.heap.size + 1, 0, none⟩) 0 0) 0 [] := ⟨rfl, .inr ⟨wr.heap.size + 1, 0, #[], rfl, Nat.le_refl _, hz0, Nat.le_refl _, Nat.zero_le _, rfl, rfl⟩⟩
            have hn0 : ((wr.alloc (.cells #[.int .i64 3, .int .i64 6, .int .i64 0, .int .u64 3, .int .u64 4, .int .u64 2, .int .u64 4, .slice (some ⟨E, 0, none⟩) 2 2, .bool false, .int .u64 0, .int .u64 0, .int .u64 0, .int .u64 0, .string ⟨#[]⟩] 27)).alloc (.cells #[] 34)).heap[E]? = some (.cells #[.int .u64 2, .int .u64 5, .string ⟨#[97]⟩, .int .u64 3, .int .u64 6, .string ⟨#[]⟩] 34 (0, 0)) := blk_below hwp hEl HK.out.e
            have HSZ := Lib.hid hsz
            have HWP := Lib.hid hwp
            have HM0 := Lib.hid hm0
            have HW0 := Lib.hid hw0
            have HN0 := Lib.hid hn0
            clear hsz hwp hm0 hz0 hw0 hn0
            obtain ⟨i0, hi, hz0, hz1, hz2⟩ := info_parts info34
            have a0 : wr.cell? ⟨a, 0, none⟩ = some (.int .i64 3) := blk_cell HK.out.a 0
            have a1 : wr.cell? ⟨a, 1, none⟩ = some (.int .i64 6) := blk_cell HK.out.a 1
            have a2 : wr.cell? ⟨a, 2, none⟩ = some (.int .i64 0) := blk_cell HK.out.a 2
            have a3 : wr.cell? ⟨a, 3, none⟩ = some (.int .u64 3) := blk_cell HK.out.a 3
            have a4 : wr.cell? ⟨a, 4, none⟩ = some (.int .u64 4) := blk_cell HK.out.a 4
            have a5 : wr.cell? ⟨a, 5, none⟩ = some (.int .u64 2) := blk_cell HK.out.a 5
            have a6 : wr.cell? ⟨a, 6, none⟩ = some (.int .u64 4) := blk_cell HK.out.a 6
            have a7 : wr.cell? ⟨a, 7, none⟩ = some (.slice (some ⟨E, 0, none⟩) 2 2) := blk_cell HK.out.a 7
            have a8 : wr.cell? ⟨a, 8, none⟩ = some (.bool false) := blk_cell HK.out.a 8
            have a9 : wr.cell? ⟨a, 9, none⟩ = some (.int .u64 0) := blk_cell HK.out.a 9
            have a10 : wr.cell? ⟨a, 10, none⟩ = some (.int .u64 0) := blk_cell HK.out.a 10
            have a11 : wr.cell? ⟨a, 11, none⟩ = some (.int .u64 0) := blk_cell HK.out.a 11
            have a12 : wr.cell? ⟨a, 12, none⟩ = some (.int .u64 0) := blk_cell HK.out.a 12
            have a13 : wr.cell? ⟨a, 13, none⟩ = some (.string ⟨#[]⟩) := blk_cell HK.out.a 13
            go_wp2_with (at_builtin; refine wpList_append_lies _ rfl _ _ 23 rfl (wr.heap.size + 1) 34 i0 (.agg #[.int .u64 0, .int .u64 0, .string ⟨#[]⟩]) 3 32 Try.underlying23 hi hz0 hz1 hz2 rfl (by decide) (.slice (some ⟨wr.heap.size + 1, 0, none⟩) 0 0) 0 [] rfl HW0.out ⟨E, 0, none⟩ 2 2 (#[.int .u64 2, .int .u64 5, .string ⟨#[97]⟩, .int .u64 3, .int .u64 6, .string ⟨#[]⟩] : Array Value).toList rfl rfl (World.news_of_block HN0.out) ents_one (by decide) (by decide) (by decide) (by have := HSZ.out; omega) _ rfl ?_
                         intro g2 cap2 w3 hown hgrow hat hlt3
                         have hb3 := grown_below (r := wr.heap.size + 1) hgrow (by have := HSZ.out; omega)
                         have hmsg := blk_below hb3 (Nat.lt_succ_self _) HM0.out
                         have HMSG := Lib.hid hmsg
                         have hWW : Below wr.heap.size wr w3 := HWP.out.trans (hb3.mono (Nat.le_succ _))
                         have HBW := Lib.hid hWW
                         have hg2 := (own_cells hown).1
                         have hMg : ¬ wr.heap.size = g2 := by omega
                         have hgM : ¬ g2 = wr.heap.size := by omega
                         have hcl := (own_cells hown).2
                         have hMlt := blk_lt hmsg
                         have m0 : w3.cell? ⟨wr.heap.size, 0, none⟩ = some (.int .i64 3) := blk_cell hmsg 0
                         have m1 : w3.cell? ⟨wr.heap.size, 1, none⟩ = some (.int .i64 6) := blk_cell hmsg 1
                         have m2 : w3.cell? ⟨wr.heap.size, 2, none⟩ = some (.int .i64 0) := blk_cell hmsg 2
                         have m3 : w3.cell? ⟨wr.heap.size, 3, none⟩ = some (.int .u64 3) := blk_cell hmsg 3
                         have m4 : w3.cell? ⟨wr.heap.size, 4, none⟩ = some (.int .u64 4) := blk_cell hmsg 4
                         have m5 : w3.cell? ⟨wr.heap.size, 5, none⟩ = some (.int .u64 2) := blk_cell hmsg 5
                         have m6 : w3.cell? ⟨wr.heap.size, 6, none⟩ = some (.int .u64 4) := blk_cell hmsg 6
                         have m7 : w3.cell? ⟨wr.heap.size, 7, none⟩ = some (.slice (some ⟨E, 0, none⟩) 2 2) := blk_cell hmsg 7
                         have m8 : w3.cell? ⟨wr.heap.size, 8, none⟩ = some (.bool false) := blk_cell hmsg 8
                         have m9 : w3.cell? ⟨wr.heap.size, 9, none⟩ = some (.int .u64 0) := blk_cell hmsg 9
                         have m10 : w3.cell? ⟨wr.heap.size, 10, none⟩ = some (.int .u64 0) := blk_cell hmsg 10
                         have m11 : w3.cell? ⟨wr.heap.size, 11, none⟩ = some (.int .u64 0) := blk_cell hmsg 11
                         have m12 : w3.cell? ⟨wr.heap.size, 12, none⟩ = some (.int .u64 0) := blk_cell hmsg 12
                         have m13 : w3.cell? ⟨wr.heap.size, 13, none⟩ = some (.string ⟨#[]⟩) := blk_cell hmsg 13
                         have f6 : w3.frozen? ⟨wr.heap.size, 6, none⟩ = false := blk_frozen hmsg 6
                         have f7 : w3.frozen? ⟨wr.heap.size, 7, none⟩ = false := blk_frozen hmsg 7
                         have HOWN := Lib.hid hown
                         clear a0 a1 a2 a3 a4 a5 a6 a7 a8 a9 a10 a11 a12 a13 hi hz0 hz1 hz2 hown hgrow hat hb3 hcl hWW hmsg)
            clear m0 m1 m2 m3 m4 m5 m6 m7 m8 m9 m10 m11 m12 m13
            have hmF : ((w3.setCell ⟨wr.heap.size, 7, none⟩ (.slice (some ⟨g2, 0, none⟩) 2 cap2)).setCell ⟨wr.heap.size, 6, none⟩ (.int .u64 1099511627777)).heap[wr.heap.size]? = some (.cells (mgCells mk8 (.slice (some ⟨g2, 0, none⟩) 2 cap2)) 27 (0, 0)) := blk_set (blk_set HMSG.out 7 _) 6 _
            have hent : EntsAt ((w3.setCell ⟨wr.heap.size, 7, none⟩ (.slice (some ⟨g2, 0, none⟩) 2 cap2)).setCell ⟨wr.heap.size, 6, none⟩ (.int .u64 1099511627777)) (.slice (some ⟨g2, 0, none⟩) 2 cap2) mk8.es := own_ents (B := wr.heap.size + 1) (own_set (own_set HOWN.out ⟨wr.heap.size, 7, none⟩ (Nat.lt_succ_self _) _) ⟨wr.heap.size, 6, none⟩ (Nat.lt_succ_self _) _)
            have hkc : KC w E a b c ((w3.setCell ⟨wr.heap.size, 7, none⟩ (.slice (some ⟨g2, 0, none⟩) 2 cap2)).setCell ⟨wr.heap.size, 6, none⟩ (.int .u64 1099511627777)) := HK.out.step ((HBW.out.setCell (p := ⟨wr.heap.size, 7, none⟩) (Nat.le_refl _) _).setCell (p := ⟨wr.heap.size, 6, none⟩) (Nat.le_refl _) _)
            generalize hW : World.setCell _ _ _ = WF at hmF hent hkc ⊢
            clear hW
            have MF := Lib.hid hmF
            have EF := Lib.hid hent
            have KF := Lib.hid hkc
            clear hmF hent hkc
            refine (encode_any mk8 (.slice (some ⟨g2, 0, none⟩) 2 cap2) WF (mk8_fit) (fun hh => absurd hh (by rw [mk8_no]; decide)) EF.out).mono ?_
            rintro e w5 ⟨rfl, hb5⟩
            rw [show encB mk8 = [] from if_neg (by rw [mk8_no]; decide), show encE mk8 = 2 from if_neg (by rw [mk8_no]; decide)]
            have M5 := Lib.hid (blk_below hb5 (blk_lt MF.out) MF.out)
            have E5 := Lib.hid (EF.out.below hb5 (Nat.le_refl _))
            have K5 := Lib.hid (KF.out.step hb5)
            clear hb5 MF EF KF
            obtain ⟨c0, c1, c2, c3, c4, c5, c6, c7, c8, c9, c10, c11, c12, c13⟩ := mg_cells M5.out
            go_wp2_with fail
            clear c0 c1 c2 c3 c4 c5 c6 c7 c8 c9 c10 c11 c12 c13
            refine (check_any mk8 (.slice (some ⟨g2, 0, none⟩) 2 cap2) w5 (mk8_fit) E5.out).mono ?_
            rintro e w6 ⟨rfl, hb6⟩
            rw [show (if checkB mk8 = true then (0 : Int) else 2) = 2 from if_neg (by rw [mk8_no]; decide)]
            have K6 := Lib.hid (K5.out.step hb6)
            clear hb6
            go_wp2_with fail
            exact ⟨⟨9, by decide, rfl, K6.out⟩, by decide⟩
          · as_aux_lemma =>
            rw [show (((9 : Nat)) : Int) = 9 from rfl]
            have hEl := blk_lt HK.out.e
            have hal := blk_lt HK.out.a
            have hbl := blk_lt HK.out.b
            have hsz : ((wr.alloc (.cells #[.int .i64 3, .int .i64 6, .int .i64 0, .int .u64 3, .int .u64 4, .int .u64 2, .int .u64 4, .slice (some ⟨E, 0, none⟩) 2 2, .bool false, .int .u64 0, .int .u64 0, .int .u64 0, .int .u64 0, .string ⟨#[]⟩] 27)).alloc (.cells #[] 34)).heap.size = wr.heap.size + 2 := by rw [World.size_alloc, World.size_alloc]
            have hwp : Below wr.heap.size wr ((wr.alloc (.cells #[.int .i64 3, .int .i64 6, .int .i64 0, .int .u64 3, .int .u64 4, .int .u64 2, .int .u64 4, .slice (some ⟨E, 0, none⟩) 2 2, .bool false, .int .u64 0, .int .u64 0, .int .u64 0, .int .u64 0, .string ⟨#[]⟩] 27)).alloc (.cells #[] 34)) := ((Below.refl _ wr).alloc (Nat.le_refl _) _).alloc (by rw [World.size_alloc]; omega) _
            have hm0 : ((wr.alloc (.cells #[.int .i64 3, .int .i64 6, .int .i64 0, .int .u64 3, .int .u64 4, .int .u64 2, .int .u64 4, .slice (some ⟨E, 0, none⟩) 2 2, .bool false, .int .u64 0, .int .u64 0, .int .u64 0, .int .u64 0, .string ⟨#[]⟩] 27)).alloc (.cells #[] 34)).heap[wr.heap.size]? = some (.cells #[.int .i64 3, .int .i64 6, .int .i64 0, .int .u64 3, .int .u64 4, .int .u64 2, .int .u64 4, .slice (some ⟨E, 0, none⟩) 2 2, .bool false, .int .u64 0, .int .u64 0, .int .u64 0, .int .u64 0, .string ⟨#[]⟩] 27 (0, 0)) := blk_alloc (blk_new wr _) _
            have hz0 : ((wr.alloc (.cells #[.int .i64 3, .int .i64 6, .int .i64 0, .int .u64 3, .int .u64 4, .int .u64 2, .int .u64 4, .slice (some ⟨E, 0, none⟩) 2 2, .bool false, .int .u64 0, .int .u64 0, .int .u64 0, .int .u64 0, .string ⟨#[]⟩] 27)).alloc (.cells #[] 34)).heap[wr.heap.size + 1]? = some (.cells #[] 34 (0, 0)) := by
              have := blk_new (wr.alloc (.cells #[.int .i64 3, .int .i64 6, .int .i64 0, .int .u64 3, .int .u64 4, .int .u64 2, .int .u64 4, .slice (some ⟨E, 0, none⟩) 2 2, .bool false, .int .u64 0, .int .u64 0, .int .u64 0, .int .u64 0, .string ⟨#[]⟩] 27)) (.cells #[] 34 (0, 0))
              rwa [World.size_alloc] at this
            have hw0 : ((wr.alloc (.cells #[.int .i64 3, .int .i64 6, .int .i64 0, .int .u64 3, .int .u64 4, .int .u64 2, .int .u64 4, .slice (some ⟨E, 0, none⟩) 2 2, .bool false, .int .u64 0, .int .u64 0, .int .u64 0, .int .u64 0, .string ⟨#[]⟩] 27)).alloc (.cells #[] 34)).ownsRow (wr.heap.size + 1) 34 3 (.slice (some ⟨wr.heap.size + 1, 0, none⟩) 0 0) 0 [] := ⟨rfl, .inr ⟨wr.heap.size + 1, 0, #[], rfl, Nat.le_refl _, hz0, Nat.le_refl _, Nat.zero_le _, rfl, rfl⟩⟩
            have hn0 : ((wr.alloc (.cells #[.int .i64 3, .int .i64 6, .int .i64 0, .int .u64 3, .int .u64 4, .int .u64 2, .int .u64 4, .slice (some ⟨E, 0, none⟩) 2 2, .bool false, .int .u64 0, .int .u64 0, .int .u64 0, .int .u64 0, .string ⟨#[]⟩] 27)).alloc (.cells #[] 34)).heap[E]? = some (.cells #[.int .u64 2, .int .u64 5, .string ⟨#[97]⟩, .int .u64 3, .int .u64 6, .string ⟨#[]⟩] 34 (0, 0)) := blk_below hwp hEl HK.out.e
            have HSZ := Lib.hid hsz
            have HWP := Lib.hid hwp
            have HM0 := Lib.hid hm0
            have HW0 := Lib.hid hw0
            have HN0 := Lib.hid hn0
            clear hsz hwp hm0 hz0 hw0 hn0
            obtain ⟨i0, hi, hz0, hz1, hz2⟩ := info_parts info34
            have a0 : wr.cell? ⟨a, 0, none⟩ = some (.int .i64 3) := blk_cell HK.out.a 0
            have a1 : wr.cell? ⟨a, 1, none⟩ = some (.int .i64 6) := blk_cell HK.out.a 1
            have a2 : wr.cell? ⟨a, 2, none⟩ = some (.int .i64 0) := blk_cell HK.out.a 2
            have a3 : wr.cell? ⟨a, 3, none⟩ = some (.int .u64 3) := blk_cell HK.out.a 3
            have a4 : wr.cell? ⟨a, 4, none⟩ = some (.int .u64 4) := blk_cell HK.out.a 4
            have a5 : wr.cell? ⟨a, 5, none⟩ = some (.int .u64 2) := blk_cell HK.out.a 5
            have a6 : wr.cell? ⟨a, 6, none⟩ = some (.int .u64 4) := blk_cell HK.out.a 6
            have a7 : wr.cell? ⟨a, 7, none⟩ = some (.slice (some ⟨E, 0, none⟩) 2 2) := blk_cell HK.out.a 7
            have a8 : wr.cell? ⟨a, 8, none⟩ = some (.bool false) := blk_cell HK.out.a 8
            have a9 : wr.cell? ⟨a, 9, none⟩ = some (.int .u64 0) := blk_cell HK.out.a 9
            have a10 : wr.cell? ⟨a, 10, none⟩ = some (.int .u64 0) := blk_cell HK.out.a 10
            have a11 : wr.cell? ⟨a, 11, none⟩ = some (.int .u64 0) := blk_cell HK.out.a 11
            have a12 : wr.cell? ⟨a, 12, none⟩ = some (.int .u64 0) := blk_cell HK.out.a 12
            have a13 : wr.cell? ⟨a, 13, none⟩ = some (.string ⟨#[]⟩) := blk_cell HK.out.a 13
            go_wp2_with (at_builtin; refine wpList_append_lies _ rfl _ _ 23 rfl (wr.heap.size + 1) 34 i0 (.agg #[.int .u64 0, .int .u64 0, .string ⟨#[]⟩]) 3 32 Try.underlying23 hi hz0 hz1 hz2 rfl (by decide) (.slice (some ⟨wr.heap.size + 1, 0, none⟩) 0 0) 0 [] rfl HW0.out ⟨E, 0, none⟩ 2 2 (#[.int .u64 2, .int .u64 5, .string ⟨#[97]⟩, .int .u64 3, .int .u64 6, .string ⟨#[]⟩] : Array Value).toList rfl rfl (World.news_of_block HN0.out) ents_one (by decide) (by decide) (by decide) (by have := HSZ.out; omega) _ rfl ?_
                         intro g2 cap2 w3 hown hgrow hat hlt3
                         have hb3 := grown_below (r := wr.heap.size + 1) hgrow (by have := HSZ.out; omega)
                         have hmsg := blk_below hb3 (Nat.lt_succ_self _) HM0.out
                         have HMSG := Lib.hid hmsg
                         have hWW : Below wr.heap.size wr w3 := HWP.out.trans (hb3.mono (Nat.le_succ _))
                         have HBW := Lib.hid hWW
                         have hg2 := (own_cells hown).1
                         have hMg : ¬ wr.heap.size = g2 := by omega
                         have hgM : ¬ g2 = wr.heap.size := by omega
                         have hcl := (own_cells hown).2
                         have hMlt := blk_lt hmsg
                         have m0 : w3.cell? ⟨wr.heap.size, 0, none⟩ = some (.int .i64 3) := blk_cell hmsg 0
                         have m1 : w3.cell? ⟨wr.heap.size, 1, none⟩ = some (.int .i64 6) := blk_cell hmsg 1
                         have m2 : w3.cell? ⟨wr.heap.size, 2, none⟩ = some (.int .i64 0) := blk_cell hmsg 2
                         have m3 : w3.cell? ⟨wr.heap.size, 3, none⟩ = some (.int .u64 3) := blk_cell hmsg 3
                         have m4 : w3.cell? ⟨wr.heap.size, 4, none⟩ = some (.int .u64 4) := blk_cell hmsg 4
                         have m5 : w3.cell? ⟨wr.heap.size, 5, none⟩ = some (.int .u64 2) := blk_cell hmsg 5
                         have m6 : w3.cell? ⟨wr.heap.size, 6, none⟩ = some (.int .u64 4) := blk_cell hmsg 6
                         have m7 : w3.cell? ⟨wr.heap.size, 7, none⟩ = some (.slice (some ⟨E, 0, none⟩) 2 2) := blk_cell hmsg 7
                         have m8 : w3.cell? ⟨wr.heap.size, 8, none⟩ = some (.bool false) := blk_cell hmsg 8
                         have m9 : w3.cell? ⟨wr.heap.size, 9, none⟩ = some (.int .u64 0) := blk_cell hmsg 9
                         have m10 : w3.cell? ⟨wr.heap.size, 10, none⟩ = some (.int .u64 0) := blk_cell hmsg 10
                         have m11 : w3.cell? ⟨wr.heap.size, 11, none⟩ = some (.int .u64 0) := blk_cell hmsg 11
                         have m12 : w3.cell? ⟨wr.heap.size, 12, none⟩ = some (.int .u64 0) := blk_cell hmsg 12
                         have m13 : w3.cell? ⟨wr.heap.size, 13, none⟩ = some (.string ⟨#[]⟩) := blk_cell hmsg 13
                         have f7 : w3.frozen? ⟨wr.heap.size, 7, none⟩ = false := blk_frozen hmsg 7
                         have x0 := (hcl 0 _ rfl).1
                         have y0 := (hcl 0 _ rfl).2
                         have HOWN := Lib.hid hown
                         clear a0 a1 a2 a3 a4 a5 a6 a7 a8 a9 a10 a11 a12 a13 hi hz0 hz1 hz2 hown hgrow hat hb3 hcl hWW hmsg)
            clear m0 m1 m2 m3 m4 m5 m6 m7 m8 m9 m10 m11 m12 m13
            have hmF : ((w3.setCell ⟨wr.heap.size, 7, none⟩ (.slice (some ⟨g2, 0, none⟩) 2 cap2)).setCell ⟨g2, 0, none⟩ (.int .u64 0)).heap[wr.heap.size]? = some (.cells (mgCells mk9 (.slice (some ⟨g2, 0, none⟩) 2 cap2)) 27 (0, 0)) := blk_other (blk_set HMSG.out 7 _) hMg _
            have hent : EntsAt ((w3.setCell ⟨wr.heap.size, 7, none⟩ (.slice (some ⟨g2, 0, none⟩) 2 cap2)).setCell ⟨g2, 0, none⟩ (.int .u64 0)) (.slice (some ⟨g2, 0, none⟩) 2 cap2) mk9.es := own_ents (B := wr.heap.size + 1) (own_setIn (own_set HOWN.out ⟨wr.heap.size, 7, none⟩ (Nat.lt_succ_self _) _) 0 _)
            have hkc : KC w E a b c ((w3.setCell ⟨wr.heap.size, 7, none⟩ (.slice (some ⟨g2, 0, none⟩) 2 cap2)).setCell ⟨g2, 0, none⟩ (.int .u64 0)) := HK.out.step ((HBW.out.setCell (p := ⟨wr.heap.size, 7, none⟩) (Nat.le_refl _) _).setCell (p := ⟨g2, 0, none⟩) (by show wr.heap.size ≤ g2; omega) _)
            generalize hW : World.setCell _ _ _ = WF at hmF hent hkc ⊢
            clear hW
            have MF := Lib.hid hmF
            have EF := Lib.hid hent
            have KF := Lib.hid hkc
            clear hmF hent hkc
            refine (encode_any mk9 (.slice (some ⟨g2, 0, none⟩) 2 cap2) WF (mk9_fit) (fun hh => absurd hh (by rw [mk9_no]; decide)) EF.out).mono ?_
            rintro e w5 ⟨rfl, hb5⟩
            rw [show encB mk9 = [] from if_neg (by rw [mk9_no]; decide), show encE mk9 = 2 from if_neg (by rw [mk9_no]; decide)]
            have M5 := Lib.hid (blk_below hb5 (blk_lt MF.out) MF.out)
            have E5 := Lib.hid (EF.out.below hb5 (Nat.le_refl _))
            have K5 := Lib.hid (KF.out.step hb5)
            clear hb5 MF EF KF
            obtain ⟨c0, c1, c2, c3, c4, c5, c6, c7, c8, c9, c10, c11, c12, c13⟩ := mg_cells M5.out
            go_wp2_with fail
            clear c0 c1 c2 c3 c4 c5 c6 c7 c8 c9 c10 c11 c12 c13
            refine (check_any mk9 (.slice (some ⟨g2, 0, none⟩) 2 cap2) w5 (mk9_fit) E5.out).mono ?_
            rintro e w6 ⟨rfl, hb6⟩
            rw [show (if checkB mk9 = true then (0 : Int) else 2) = 2 from if_neg (by rw [mk9_no]; decide)]
            have K6 := Lib.hid (K5.out.step hb6)
            clear hb6
            go_wp2_with fail
            exact ⟨⟨10, by decide, rfl, K6.out⟩, by decide⟩
          · as_aux_lemma =>
            rw [show (((10 : Nat)) : Int) = 10 from rfl]
            have hEl := blk_lt HK.out.e
            have hal := blk_lt HK.out.a
            have hbl := blk_lt HK.out.b
            have hsz : ((wr.alloc (.cells #[.int .i64 3, .int .i64 6, .int .i64 0, .int .u64 3, .int .u64 4, .int .u64 2, .int .u64 4, .slice (some ⟨E, 0, none⟩) 2 2, .bool false, .int .u64 0, .int .u64 0, .int .u64 0, .int .u64 0, .string ⟨#[]⟩] 27)).alloc (.cells #[] 34)).heap.size = wr.heap.size + 2 := by rw [World.size_alloc, World.size_alloc]
            have hwp : Below wr.heap.size wr ((wr.alloc (.cells #[.int .i64 3, .int .i64 6, .int .i64 0, .int .u64 3, .int .u64 4, .int .u64 2, .int .u64 4, .slice (some ⟨E, 0, none⟩) 2 2, .bool false, .int .u64 0, .int .u64 0, .int .u64 0, .int .u64 0, .string ⟨#[]⟩] 27)).alloc (.cells #[] 34)) := ((Below.refl _ wr).alloc (Nat.le_refl _) _).alloc (by rw [World.size_alloc]; omega) _
            have hm0 : ((wr.alloc (.cells #[.int .i64 3, .int .i64 6, .int .i64 0, .int .u64 3, .int .u64 4, .int .u64 2, .int .u64 4, .slice (some ⟨E, 0, none⟩) 2 2, .bool false, .int .u64 0, .int .u64 0, .int .u64 0, .int .u64 0, .string ⟨#[]⟩] 27)).alloc (.cells #[] 34)).heap[wr.heap.size]? = some (.cells #[.int .i64 3, .int .i64 6, .int .i64 0, .int .u64 3, .int .u64 4, .int .u64 2, .int .u64 4, .slice (some ⟨E, 0, none⟩) 2 2, .bool false, .int .u64 0, .int .u64 0, .int .u64 0, .int .u64 0, .string ⟨#[]⟩] 27 (0, 0)) := blk_alloc (blk_new wr _) _
            have hz0 : ((wr.alloc (.cells #[.int .i64 3, .int .i64 6, .int .i64 0, .int .u64 3, .int .u64 4, .int .u64 2, .int .u64 4, .slice (some ⟨E, 0, none⟩) 2 2, .bool false, .int .u64 0, .int .u64 0, .int .u64 0, .int .u64 0, .string ⟨#[]⟩] 27)).alloc (.cells #[] 34)).heap[wr.heap.size + 1]? = some (.cells #[] 34 (0, 0)) := by
              have := blk_new (wr.alloc (.cells #[.int .i64 3, .int .i64 6, .int .i64 0, .int .u64 3, .int .u64 4, .int .u64 2, .int .u64 4, .slice (some ⟨E, 0, none⟩) 2 2, .bool false, .int .u64 0, .int .u64 0, .int .u64 0, .int .u64 0, .string ⟨#[]⟩] 27)) (.cells #[] 34 (0, 0))
              rwa [World.size_alloc] at this
            have hw0 : ((wr.alloc (.cells #[.int .i64 3, .int .i64 6, .int .i64 0, .int .u64 3, .int .u64 4, .int .u64 2, .int .u64 4, .slice (some ⟨E, 0, none⟩) 2 2, .bool false, .int .u64 0, .int .u64 0, .int .u64 0, .int .u64 0, .string ⟨#[]⟩] 27)).alloc (.cells #[] 34)).ownsRow (wr.heap.size + 1) 34 3 (.slice (some ⟨wr.heap.size + 1, 0, none⟩) 0 0) 0 [] := ⟨rfl, .inr ⟨wr.heap.size + 1, 0, #[], rfl, Nat.le_refl _, hz0, Nat.le_refl _, Nat.zero_le _, rfl, rfl⟩⟩
            have hn0 : ((wr.alloc (.cells #[.int .i64 3, .int .i64 6, .int .i64 0, .int .u64 3, .int .u64 4, .int .u64 2, .int .u64 4, .slice (some ⟨E, 0, none⟩) 2 2, .bool false, .int .u64 0, .int .u64 0, .int .u64 0, .int .u64 0, .string ⟨#[]⟩] 27)).alloc (.cells #[] 34)).heap[E]? = some (.cells #[.int .u64 2, .int .u64 5, .string ⟨#[97]⟩, .int .u64 3, .int .u64 6, .string ⟨#[]⟩] 34 (0, 0)) := blk_below hwp hEl HK.out.e
            have HSZ := Lib.hid hsz
            have HWP := Lib.hid hwp
            have HM0 := Lib.hid hm0
            have HW0 := Lib.hid hw0
            have HN0 := Lib.hid hn0
            clear hsz hwp hm0 hz0 hw0 hn0
            obtain ⟨i0, hi, hz0, hz1, hz2⟩ := info_parts info34
            have a0 : wr.cell? ⟨a, 0, none⟩ = some (.int .i64 3) := blk_cell HK.out.a 0
            have a1 : wr.cell? ⟨a, 1, none⟩ = some (.int .i64 6) := blk_cell HK.out.a 1
            have a2 : wr.cell? ⟨a, 2, none⟩ = some (.int .i64 0) := blk_cell HK.out.a 2
            have a3 : wr.cell? ⟨a, 3, none⟩ = some (.int .u64 3) := blk_cell HK.out.a 3
            have a4 : wr.cell? ⟨a, 4, none⟩ = some (.int .u64 4) := blk_cell HK.out.a 4
            have a5 : wr.cell? ⟨a, 5, none⟩ = some (.int .u64 2) := blk_cell HK.out.a 5
            have a6 : wr.cell? ⟨a, 6, none⟩ = some (.int .u64 4) := blk_cell HK.out.a 6
            have a7 : wr.cell? ⟨a, 7, none⟩ = some (.slice (some ⟨E, 0, none⟩) 2 2) := blk_cell HK.out.a 7
            have a8 : wr.cell? ⟨a, 8, none⟩ = some (.bool false) := blk_cell HK.out.a 8
            have a9 : wr.cell? ⟨a, 9, none⟩ = some (.int .u64 0) := blk_cell HK.out.a 9
            have a10 : wr.cell? ⟨a, 10, none⟩ = some (.int .u64 0) := blk_cell HK.out.a 10
            have a11 : wr.cell? ⟨a, 11, none⟩ = some (.int .u64 0) := blk_cell HK.out.a 11
            have a12 : wr.cell? ⟨a, 12, none⟩ = some (.int .u64 0) := blk_cell HK.out.a 12
            have a13 : wr.cell? ⟨a, 13, none⟩ = some (.string ⟨#[]⟩) := blk_cell HK.out.a 13
            go_wp2_with (at_builtin; refine wpList_append_lies _ rfl _ _ 23 rfl (wr.heap.size + 1) 34 i0 (.agg #[.int .u64 0, .int .u64 0, .string ⟨#[]⟩]) 3 32 Try.underlying23 hi hz0 hz1 hz2 rfl (by decide) (.slice (some ⟨wr.heap.size + 1, 0, none⟩) 0 0) 0 [] rfl HW0.out ⟨E, 0, none⟩ 2 2 (#[.int .u64 2, .int .u64 5, .string ⟨#[97]⟩, .int .u64 3, .int .u64 6, .string ⟨#[]⟩] : Array Value).toList rfl rfl (World.news_of_block HN0.out) ents_one (by decide) (by decide) (by decide) (by have := HSZ.out; omega) _ rfl ?_
                         intro g2 cap2 w3 hown hgrow hat hlt3
                         have hb3 := grown_below (r := wr.heap.size + 1) hgrow (by have := HSZ.out; omega)
                         have hmsg := blk_below hb3 (Nat.lt_succ_self _) HM0.out
                         have HMSG := Lib.hid hmsg
                         have hWW : Below wr.heap.size wr w3 := HWP.out.trans (hb3.mono (Nat.le_succ _))
                         have HBW := Lib.hid hWW
                         have hg2 := (own_cells hown).1
                         have hMg : ¬ wr.heap.size = g2 := by omega
                         have hgM : ¬ g2 = wr.heap.size := by omega
                         have hcl := (own_cells hown).2
                         have hMlt := blk_lt hmsg
                         have m0 : w3.cell? ⟨wr.heap.size, 0, none⟩ = some (.int .i64 3) := blk_cell hmsg 0
                         have m1 : w3.cell? ⟨wr.heap.size, 1, none⟩ = some (.int .i64 6) := blk_cell hmsg 1
                         have m2 : w3.cell? ⟨wr.heap.size, 2, none⟩ = some (.int .i64 0) := blk_cell hmsg 2
                         have m3 : w3.cell? ⟨wr.heap.size, 3, none⟩ = some (.int .u64 3) := blk_cell hmsg 3
                         have m4 : w3.cell? ⟨wr.heap.size, 4, none⟩ = some (.int .u64 4) := blk_cell hmsg 4
                         have m5 : w3.cell? ⟨wr.heap.size, 5, none⟩ = some (.int .u64 2) := blk_cell hmsg 5
                         have m6 : w3.cell? ⟨wr.heap.size, 6, none⟩ = some (.int .u64 4) := blk_cell hmsg 6
                         have m7 : w3.cell? ⟨wr.heap.size, 7, none⟩ = some (.slice (some ⟨E, 0, none⟩) 2 2) := blk_cell hmsg 7
                         have m8 : w3.cell? ⟨wr.heap.size, 8, none⟩ = some (.bool false) := blk_cell hmsg 8
                         have m9 : w3.cell? ⟨wr.heap.size, 9, none⟩ = some (.int .u64 0) := blk_cell hmsg 9
                         have m10 : w3.cell? ⟨wr.heap.size, 10, none⟩ = some (.int .u64 0) := blk_cell hmsg 10
                         have m11 : w3.cell? ⟨wr.heap.size, 11, none⟩ = some (.int .u64 0) := blk_cell hmsg 11
                         have m12 : w3.cell? ⟨wr.heap.size, 12, none⟩ = some (.int .u64 0) := blk_cell hmsg 12
                         have m13 : w3.cell? ⟨wr.heap.size, 13, none⟩ = some (.string ⟨#[]⟩) := blk_cell hmsg 13
                         have f7 : w3.frozen? ⟨wr.heap.size, 7, none⟩ = false := blk_frozen hmsg 7
                         have x3 := (hcl 3 _ rfl).1
                         have y3 := (hcl 3 _ rfl).2
                         have HOWN := Lib.hid hown
                         clear a0 a1 a2 a3 a4 a5 a6 a7 a8 a9 a10 a11 a12 a13 hi hz0 hz1 hz2 hown hgrow hat hb3 hcl hWW hmsg)
            clear m0 m1 m2 m3 m4 m5 m6 m7 m8 m9 m10 m11 m12 m13
            have hmF : ((w3.setCell ⟨wr.heap.size, 7, none⟩ (.slice (some ⟨g2, 0, none⟩) 2 cap2)).setCell ⟨g2, 3, none⟩ (.int .u64 1)).heap[wr.heap.size]? = some (.cells (mgCells mk10 (.slice (some ⟨g2, 0, none⟩) 2 cap2)) 27 (0, 0)) := blk_other (blk_set HMSG.out 7 _) hMg _
            have hent : EntsAt ((w3.setCell ⟨wr.heap.size, 7, none⟩ (.slice (some ⟨g2, 0, none⟩) 2 cap2)).setCell ⟨g2, 3, none⟩ (.int .u64 1)) (.slice (some ⟨g2, 0, none⟩) 2 cap2) mk10.es := own_ents (B := wr.heap.size + 1) (own_setIn (own_set HOWN.out ⟨wr.heap.size, 7, none⟩ (Nat.lt_succ_self _) _) 3 _)
            have hkc : KC w E a b c ((w3.setCell ⟨wr.heap.size, 7, none⟩ (.slice (some ⟨g2, 0, none⟩) 2 cap2)).setCell ⟨g2, 3, none⟩ (.int .u64 1)) := HK.out.step ((HBW.out.setCell (p := ⟨wr.heap.size, 7, none⟩) (Nat.le_refl _) _).setCell (p := ⟨g2, 3, none⟩) (by show wr.heap.size ≤ g2; omega) _)
            generalize hW : World.setCell _ _ _ = WF at hmF hent hkc ⊢
            clear hW
            have MF := Lib.hid hmF
            have EF := Lib.hid hent
            have KF := Lib.hid hkc
            clear hmF hent hkc
            refine (encode_any mk10 (.slice (some ⟨g2, 0, none⟩) 2 cap2) WF (mk10_fit) (fun hh => absurd hh (by rw [mk10_no]; decide)) EF.out).mono ?_
            rintro e w5 ⟨rfl, hb5⟩
            rw [show encB mk10 = [] from if_neg (by rw [mk10_no]; decide), show encE mk10 = 2 from if_neg (by rw [mk10_no]; decide)]
            have M5 := Lib.hid (blk_below hb5 (blk_lt MF.out) MF.out)
            have E5 := Lib.hid (EF.out.below hb5 (Nat.le_refl _))
            have K5 := Lib.hid (KF.out.step hb5)
            clear hb5 MF EF KF
            obtain ⟨c0, c1, c2, c3, c4, c5, c6, c7, c8, c9, c10, c11, c12, c13⟩ := mg_cells M5.out
            go_wp2_with fail
            clear c0 c1 c2 c3 c4 c5 c6 c7 c8 c9 c10 c11 c12 c13
            refine (check_any mk10 (.slice (some ⟨g2, 0, none⟩) 2 cap2) w5 (mk10_fit) E5.out).mono ?_
            rintro e w6 ⟨rfl, hb6⟩
            rw [show (if checkB mk10 = true then (0 : Int) else 2) = 2 from if_neg (by rw [mk10_no]; decide)]
            have K6 := Lib.hid (K5.out.step hb6)
            clear hb6
            go_wp2_with fail
            exact ⟨⟨11, by decide, rfl, K6.out⟩, by decide⟩
          · as_aux_lemma =>
            rw [show (((11 : Nat)) : Int) = 11 from rfl]
            have hEl := blk_lt HK.out.e
            have hal := blk_lt HK.out.a
            have hbl := blk_lt HK.out.b
            have hsz : ((wr.alloc (.cells #[.int .i64 3, .int .i64 6, .int .i64 0, .int .u64 3, .int .u64 4, .int .u64 2, .int .u64 4, .slice (some ⟨E, 0, none⟩) 2 2, .bool false, .int .u64 0, .int .u64 0, .int .u64 0, .int .u64 0, .string ⟨#[]⟩] 27)).alloc (.cells #[] 34)).heap.size = wr.heap.size + 2 := by rw [World.size_alloc, World.size_alloc]
            have hwp : Below wr.heap.size wr ((wr.alloc (.cells #[.int .i64 3, .int .i64 6, .int .i64 0, .int .u64 3, .int .u64 4, .int .u64 2, .int .u64 4, .slice (some ⟨E, 0, none⟩) 2 2, .bool false, .int .u64 0, .int .u64 0, .int .u64 0, .int .u64 0, .string ⟨#[]⟩] 27)).alloc (.cells #[] 34)) := ((Below.refl _ wr).alloc (Nat.le_refl _) _).alloc (by rw [World.size_alloc]; omega) _
            have hm0 : ((wr.alloc (.cells #[.int .i64 3, .int .i64 6, .int .i64 0, .int .u64 3, .int .u64 4, .int .u64 2, .int .u64 4, .slice (some ⟨E, 0, none⟩) 2 2, .bool false, .int .u64 0, .int .u64 0, .int .u64 0, .int .u64 0, .string ⟨#[]⟩] 27)).alloc (.cells #[] 34)).heap[wr.heap.size]? = some (.cells #[.int .i64 3, .int .i64 6, .int .i64 0, .int .u64 3, .int .u64 4, .int .u64 2, .int .u64 4, .slice (some ⟨E, 0, none⟩) 2 2, .bool false, .int .u64 0, .int .u64 0, .int .u64 0, .int .u64 0, .string ⟨#[]⟩] 27 (0, 0)) := blk_alloc (blk_new wr _) _
            have hz0 : ((wr.alloc (.cells #[.int .i64 3, .int .i64 6, .int .i64 0, .int .u64 3, .int .u64 4, .int .u64 2, .int .u64 4, .slice (some ⟨E, 0, none⟩) 2 2, .bool false, .int .u64 0, .int .u64 0, .int .u64 0, .int .u64 0, .string ⟨#[]⟩] 27)).alloc (.cells #[] 34)).heap[wr.heap.size + 1]? = some (.cells #[] 34 (0, 0)) := by
              have := blk_new (wr.alloc (.cells #[.int .i64 3, .int .i64 6, .int .i64 0, .int .u64 3, .int .u64 4, .int .u64 2, .int .u64 4, .slice (some ⟨E, 0, none⟩) 2 2, .bool false, .int .u64 0, .int .u64 0, .int .u64 0, .int .u64 0, .string ⟨#[]⟩] 27)) (.cells #[] 34 (0, 0))
              rwa [World.size_alloc] at this
            have hw0 : ((wr.alloc (.cells #[.int .i64 3, .int .i64 6, .int .i64 0, .int .u64 3, .int .u64 4, .int .u64 2, .int .u64 4, .slice (some ⟨E, 0, none⟩) 2 2, .bool false, .int .u64 0, .int .u64 0, .int .u64 0, .int .u64 0, .string ⟨#[]⟩] 27)).alloc (.cells #[] 34)).ownsRow (wr.heap.size + 1) 34 3 (.slice (some ⟨wr.heap.size + 1, 0, none⟩) 0 0) 0 [] := ⟨rfl, .inr ⟨wr.heap.size + 1, 0, #[], rfl, Nat.le_refl _, hz0, Nat.le_refl _, Nat.zero_le _, rfl, rfl⟩⟩
            have hn0 : ((wr.alloc (.cells #[.int .i64 3, .int .i64 6, .int .i64 0, .int .u64 3, .int .u64 4, .int .u64 2, .int .u64 4, .slice (some ⟨E, 0, none⟩) 2 2, .bool false, .int .u64 0, .int .u64 0, .int .u64 0, .int .u64 0, .string ⟨#[]⟩] 27)).alloc (.cells #[] 34)).heap[E]? = some (.cells #[.int .u64 2, .int .u64 5, .string ⟨#[97]⟩, .int .u64 3, .int .u64 6, .string ⟨#[]⟩] 34 (0, 0)) := blk_below hwp hEl HK.out.e
            have HSZ := Lib.hid hsz
            have HWP := Lib.hid hwp
            have HM0 := Lib.hid hm0
            have HW0 := Lib.hid hw0
            have HN0 := Lib.hid hn0
            clear hsz hwp hm0 hz0 hw0 hn0
            obtain ⟨i0, hi, hz0, hz1, hz2⟩ := info_parts info34
            have a0 : wr.cell? ⟨a, 0, none⟩ = some (.int .i64 3) := blk_cell HK.out.a 0
            have a1 : wr.cell? ⟨a, 1, none⟩ = some (.int .i64 6) := blk_cell HK.out.a 1
            have a2 : wr.cell? ⟨a, 2, none⟩ = some (.int .i64 0) := blk_cell HK.out.a 2
            have a3 : wr.cell? ⟨a, 3, none⟩ = some (.int .u64 3) := blk_cell HK.out.a 3
            have a4 : wr.cell? ⟨a, 4, none⟩ = some (.int .u64 4) := blk_cell HK.out.a 4
            have a5 : wr.cell? ⟨a, 5, none⟩ = some (.int .u64 2) := blk_cell HK.out.a 5
            have a6 : wr.cell? ⟨a, 6, none⟩ = some (.int .u64 4) := blk_cell HK.out.a 6
            have a7 : wr.cell? ⟨a, 7, none⟩ = some (.slice (some ⟨E, 0, none⟩) 2 2) := blk_cell HK.out.a 7
            have a8 : wr.cell? ⟨a, 8, none⟩ = some (.bool false) := blk_cell HK.out.a 8
            have a9 : wr.cell? ⟨a, 9, none⟩ = some (.int .u64 0) := blk_cell HK.out.a 9
            have a10 : wr.cell? ⟨a, 10, none⟩ = some (.int .u64 0) := blk_cell HK.out.a 10
            have a11 : wr.cell? ⟨a, 11, none⟩ = some (.int .u64 0) := blk_cell HK.out.a 11
            have a12 : wr.cell? ⟨a, 12, none⟩ = some (.int .u64 0) := blk_cell HK.out.a 12
            have a13 : wr.cell? ⟨a, 13, none⟩ = some (.string ⟨#[]⟩) := blk_cell HK.out.a 13
            go_wp2_with (at_builtin; refine wpList_append_lies _ rfl _ _ 23 rfl (wr.heap.size + 1) 34 i0 (.agg #[.int .u64 0, .int .u64 0, .string ⟨#[]⟩]) 3 32 Try.underlying23 hi hz0 hz1 hz2 rfl (by decide) (.slice (some ⟨wr.heap.size + 1, 0, none⟩) 0 0) 0 [] rfl HW0.out ⟨E, 0, none⟩ 2 2 (#[.int .u64 2, .int .u64 5, .string ⟨#[97]⟩, .int .u64 3, .int .u64 6, .string ⟨#[]⟩] : Array Value).toList rfl rfl (World.news_of_block HN0.out) ents_one (by decide) (by decide) (by decide) (by have := HSZ.out; omega) _ rfl ?_
                         intro g2 cap2 w3 hown hgrow hat hlt3
                         have hb3 := grown_below (r := wr.heap.size + 1) hgrow (by have := HSZ.out; omega)
                         have hmsg := blk_below hb3 (Nat.lt_succ_self _) HM0.out
                         have HMSG := Lib.hid hmsg
                         have hWW : Below wr.heap.size wr w3 := HWP.out.trans (hb3.mono (Nat.le_succ _))
                         have HBW := Lib.hid hWW
                         have hg2 := (own_cells hown).1
                         have hMg : ¬ wr.heap.size = g2 := by omega
                         have hgM : ¬ g2 = wr.heap.size := by omega
                         have hcl := (own_cells hown).2
                         have hMlt := blk_lt hmsg
                         have m0 : w3.cell? ⟨wr.heap.size, 0, none⟩ = some (.int .i64 3) := blk_cell hmsg 0
                         have m1 : w3.cell? ⟨wr.heap.size, 1, none⟩ = some (.int .i64 6) := blk_cell hmsg 1
                         have m2 : w3.cell? ⟨wr.heap.size, 2, none⟩ = some (.int .i64 0) := blk_cell hmsg 2
                         have m3 : w3.cell? ⟨wr.heap.size, 3, none⟩ = some (.int .u64 3) := blk_cell hmsg 3
                         have m4 : w3.cell? ⟨wr.heap.size, 4, none⟩ = some (.int .u64 4) := blk_cell hmsg 4
                         have m5 : w3.cell? ⟨wr.heap.size, 5, none⟩ = some (.int .u64 2) := blk_cell hmsg 5
                         have m6 : w3.cell? ⟨wr.heap.size, 6, none⟩ = some (.int .u64 4) := blk_cell hmsg 6
                         have m7 : w3.cell? ⟨wr.heap.size, 7, none⟩ = some (.slice (some ⟨E, 0, none⟩) 2 2) := blk_cell hmsg 7
                         have m8 : w3.cell? ⟨wr.heap.size, 8, none⟩ = some (.bool false) := blk_cell hmsg 8
                         have m9 : w3.cell? ⟨wr.heap.size, 9, none⟩ = some (.int .u64 0) := blk_cell hmsg 9
                         have m10 : w3.cell? ⟨wr.heap.size, 10, none⟩ = some (.int .u64 0) := blk_cell hmsg 10
                         have m11 : w3.cell? ⟨wr.heap.size, 11, none⟩ = some (.int .u64 0) := blk_cell hmsg 11
                         have m12 : w3.cell? ⟨wr.heap.size, 12, none⟩ = some (.int .u64 0) := blk_cell hmsg 12
                         have m13 : w3.cell? ⟨wr.heap.size, 13, none⟩ = some (.string ⟨#[]⟩) := blk_cell hmsg 13
                         have f7 : w3.frozen? ⟨wr.heap.size, 7, none⟩ = false := blk_frozen hmsg 7
                         have x3 := (hcl 3 _ rfl).1
                         have y3 := (hcl 3 _ rfl).2
                         have HOWN := Lib.hid hown
                         clear a0 a1 a2 a3 a4 a5 a6 a7 a8 a9 a10 a11 a12 a13 hi hz0 hz1 hz2 hown hgrow hat hb3 hcl hWW hmsg)
            clear m0 m1 m2 m3 m4 m5 m6 m7 m8 m9 m10 m11 m12 m13
            have hmF : ((w3.setCell ⟨wr.heap.size, 7, none⟩ (.slice (some ⟨g2, 0, none⟩) 2 cap2)).setCell ⟨g2, 3, none⟩ (.int .u64 4)).heap[wr.heap.size]? = some (.cells (mgCells mk11 (.slice (some ⟨g2, 0, none⟩) 2 cap2)) 27 (0, 0)) := blk_other (blk_set HMSG.out 7 _) hMg _
            have hent : EntsAt ((w3.setCell ⟨wr.heap.size, 7, none⟩ (.slice (some ⟨g2, 0, none⟩) 2 cap2)).setCell ⟨g2, 3, none⟩ (.int .u64 4)) (.slice (some ⟨g2, 0, none⟩) 2 cap2) mk11.es := own_ents (B := wr.heap.size + 1) (own_setIn (own_set HOWN.out ⟨wr.heap.size, 7, none⟩ (Nat.lt_succ_self _) _) 3 _)
            have hkc : KC w E a b c ((w3.setCell ⟨wr.heap.size, 7, none⟩ (.slice (some ⟨g2, 0, none⟩) 2 cap2)).setCell ⟨g2, 3, none⟩ (.int .u64 4)) := HK.out.step ((HBW.out.setCell (p := ⟨wr.heap.size, 7, none⟩) (Nat.le_refl _) _).setCell (p := ⟨g2, 3, none⟩) (by show wr.heap.size ≤ g2; omega) _)
            generalize hW : World.setCell _ _ _ = WF at hmF hent hkc ⊢
            clear hW
            have MF := Lib.hid hmF
            have EF := Lib.hid hent
            have KF := Lib.hid hkc
            clear hmF hent hkc
            refine (encode_any mk11 (.slice (some ⟨g2, 0, none⟩) 2 cap2) WF (mk11_fit) (fun hh => absurd hh (by rw [mk11_no]; decide)) EF.out).mono ?_
            rintro e w5 ⟨rfl, hb5⟩
            rw [show encB mk11 = [] from if_neg (by rw [mk11_no]; decide), show encE mk11 = 2 from if_neg (by rw [mk11_no]; decide)]
            have M5 := Lib.hid (blk_below hb5 (blk_lt MF.out) MF.out)
            have E5 := Lib.hid (EF.out.below hb5 (Nat.le_refl _))
            have K5 := Lib.hid (KF.out.step hb5)
            clear hb5 MF EF KF
            obtain ⟨c0, c1, c2, c3, c4, c5, c6, c7, c8, c9, c10, c11, c12, c13⟩ := mg_cells M5.out
            go_wp2_with fail
            clear c0 c1 c2 c3 c4 c5 c6 c7 c8 c9 c10 c11 c12 c13
            refine (check_any mk11 (.slice (some ⟨g2, 0, none⟩) 2 cap2) w5 (mk11_fit) E5.out).mono ?_
            rintro e w6 ⟨rfl, hb6⟩
            rw [show (if checkB mk11 = true then (0 : Int) else 2) = 2 from if_neg (by rw [mk11_no]; decide)]
            have K6 := Lib.hid (K5.out.step hb6)
            clear hb6
            go_wp2_with fail
            exact ⟨⟨12, by decide, rfl, K6.out⟩, by decide⟩
          · as_aux_lemma =>
            rw [show (((12 : Nat)) : Int) = 12 from rfl]
            have hEl := blk_lt HK.out.e
            have hal := blk_lt HK.out.a
            have hbl := blk_lt HK.out.b
            have hsz : ((wr.alloc (.cells #[.int .i64 3, .int .i64 6, .int .i64 0, .int .u64 3, .int .u64 4, .int .u64 2, .int .u64 4, .slice (some ⟨E, 0, none⟩) 2 2, .bool false, .int .u64 0, .int .u64 0, .int .u64 0, .int .u64 0, .string ⟨#[]⟩] 27)).alloc (.cells #[] 34)).heap.size = wr.heap.size + 2 := by rw [World.size_alloc, World.size_alloc]
            have hwp : Below wr.heap.size wr ((wr.alloc (.cells #[.int .i64 3, .int .i64 6, .int .i64 0, .int .u64 3, .int .u64 4, .int .u64 2, .int .u64 4, .slice (some ⟨E, 0, none⟩) 2 2, .bool false, .int .u64 0, .int .u64 0, .int .u64 0, .int .u64 0, .string ⟨#[]⟩] 27)).alloc (.cells #[] 34)) := ((Below.refl _ wr).alloc (Nat.le_refl _) _).alloc (by rw [World.size_alloc]; omega) _
            have hm0 : ((wr.alloc (.cells #[.int .i64 3, .int .i64 6, .int .i64 0, .int .u64 3, .int .u64 4, .int .u64 2, .int .u64 4, .slice (some ⟨E, 0, none⟩) 2 2, .bool false, .int .u64 0, .int .u64 0, .int .u64 0, .int .u64 0, .string ⟨#[]⟩] 27)).alloc (.cells #[] 34)).heap[wr.heap.size]? = some (.cells #[.int .i64 3, .int .i64 6, .int .i64 0, .int .u64 3, .int .u64 4, .int .u64 2, .int .u64 4, .slice (some ⟨E, 0, none⟩) 2 2, .bool false, .int .u64 0, .int .u64 0, .int .u64 0, .int .u64 0, .string ⟨#[]⟩] 27 (0, 0)) := blk_alloc (blk_new wr _) _
            have hz0 : ((wr.alloc (.cells #[.int .i64 3, .int .i64 6, .int .i64 0, .int .u64 3, .int .u64 4, .int .u64 2, .int .u64 4, .slice (some ⟨E, 0, none⟩) 2 2, .bool false, .int .u64 0, .int .u64 0, .int .u64 0, .int .u64 0, .string ⟨#[]⟩] 27)).alloc (.cells #[] 34)).heap[wr.heap.size + 1]? = some (.cells #[] 34 (0, 0)) := by
              have := blk_new (wr.alloc (.cells #[.int .i64 3, .int .i64 6, .int .i64 0, .int .u64 3, .int .u64 4, .int .u64 2, .int .u64 4, .slice (some ⟨E, 0, none⟩) 2 2, .bool false, .int .u64 0, .int .u64 0, .int .u64 0, .int .u64 0, .string ⟨#[]⟩] 27)) (.cells #[] 34 (0, 0))
              rwa [World.size_alloc] at this
            have hw0 : ((wr.alloc (.cells #[.int .i64 3, .int .i64 6, .int .i64 0, .int .u64 3, .int .u64 4, .int .u64 2, .int .u64 4, .slice (some ⟨E, 0, none⟩) 2 2, .bool false, .int .u64 0, .int .u64 0, .int .u64 0, .int .u64 0, .string ⟨#[]⟩] 27)).alloc (.cells #[] 34)).ownsRow (wr.heap.size + 1) 34 3 (.slice (some ⟨wr.heap.size + 1, 0, none⟩) 0 0) 0 [] := ⟨rfl, .inr ⟨wr.heap.size + 1, 0, #[], rfl, Nat.le_refl _, hz0, Nat.le_refl _, Nat.zero_le _, rfl, rfl⟩⟩
            have hn0 : ((wr.alloc (.cells #[.int .i64 3, .int .i64 6, .int .i64 0, .int .u64 3, .int .u64 4, .int .u64 2, .int .u64 4, .slice (some ⟨E, 0, none⟩) 2 2, .bool false, .int .u64 0, .int .u64 0, .int .u64 0, .int .u64 0, .string ⟨#[]⟩] 27)).alloc (.cells #[] 34)).heap[E]? = some (.cells #[.int .u64 2, .int .u64 5, .string ⟨#[97]⟩, .int .u64 3, .int .u64 6, .string ⟨#[]⟩] 34 (0, 0)) := blk_below hwp hEl HK.out.e
            have HSZ := Lib.hid hsz
            have HWP := Lib.hid hwp
            have HM0 := Lib.hid hm0
            have HW0 := Lib.hid hw0
            have HN0 := Lib.hid hn0
            clear hsz hwp hm0 hz0 hw0 hn0
            obtain ⟨i0, hi, hz0, hz1, hz2⟩ := info_parts info34
            have a0 : wr.cell? ⟨a, 0, none⟩ = some (.int .i64 3) := blk_cell HK.out.a 0
            have a1 : wr.cell? ⟨a, 1, none⟩ = some (.int .i64 6) := blk_cell HK.out.a 1
            have a2 : wr.cell? ⟨a, 2, none⟩ = some (.int .i64 0) := blk_cell HK.out.a 2
            have a3 : wr.cell? ⟨a, 3, none⟩ = some (.int .u64 3) := blk_cell HK.out.a 3
            have a4 : wr.cell? ⟨a, 4, none⟩ = some (.int .u64 4) := blk_cell HK.out.a 4
            have a5 : wr.cell? ⟨a, 5, none⟩ = some (.int .u64 2) := blk_cell HK.out.a 5
            have a6 : wr.cell? ⟨a, 6, none⟩ = some (.int .u64 4) := blk_cell HK.out.a 6
            have a7 : wr.cell? ⟨a, 7, none⟩ = some (.slice (some ⟨E, 0, none⟩) 2 2) := blk_cell HK.out.a 7
            have a8 : wr.cell? ⟨a, 8, none⟩ = some (.bool false) := blk_cell HK.out.a 8
            have a9 : wr.cell? ⟨a, 9, none⟩ = some (.int .u64 0) := blk_cell HK.out.a 9
            have a10 : wr.cell? ⟨a, 10, none⟩ = some (.int .u64 0) := blk_cell HK.out.a 10
            have a11 : wr.cell? ⟨a, 11, none⟩ = some (.int .u64 0) := blk_cell HK.out.a 11
            have a12 : wr.cell? ⟨a, 12, none⟩ = some (.int .u64 0) := blk_cell HK.out.a 12
            have a13 : wr.cell? ⟨a, 13, none⟩ = some (.string ⟨#[]⟩) := blk_cell HK.out.a 13
            go_wp2_with (at_builtin; refine wpList_append_lies _ rfl _ _ 23 rfl (wr.heap.size + 1) 34 i0 (.agg #[.int .u64 0, .int .u64 0, .string ⟨#[]⟩]) 3 32 Try.underlying23 hi hz0 hz1 hz2 rfl (by decide) (.slice (some ⟨wr.heap.size + 1, 0, none⟩) 0 0) 0 [] rfl HW0.out ⟨E, 0, none⟩ 2 2 (#[.int .u64 2, .int .u64 5, .string ⟨#[97]⟩, .int .u64 3, .int .u64 6, .string ⟨#[]⟩] : Array Value).toList rfl rfl (World.news_of_block HN0.out) ents_one (by decide) (by decide) (by decide) (by have := HSZ.out; omega) _ rfl ?_
                         intro g2 cap2 w3 hown hgrow hat hlt3
                         have hb3 := grown_below (r := wr.heap.size + 1) hgrow (by have := HSZ.out; omega)
                         have hmsg := blk_below hb3 (Nat.lt_succ_self _) HM0.out
                         have HMSG := Lib.hid hmsg
                         have hWW : Below wr.heap.size wr w3 := HWP.out.trans (hb3.mono (Nat.le_succ _))
                         have HBW := Lib.hid hWW
                         have hg2 := (own_cells hown).1
                         have hMg : ¬ wr.heap.size = g2 := by omega
                         have hgM : ¬ g2 = wr.heap.size := by omega
                         have hcl := (own_cells hown).2
                         have hMlt := blk_lt hmsg
                         have m0 : w3.cell? ⟨wr.heap.size, 0, none⟩ = some (.int .i64 3) := blk_cell hmsg 0
                         have m1 : w3.cell? ⟨wr.heap.size, 1, none⟩ = some (.int .i64 6) := blk_cell hmsg 1
                         have m2 : w3.cell? ⟨wr.heap.size, 2, none⟩ = some (.int .i64 0) := blk_cell hmsg 2
                         have m3 : w3.cell? ⟨wr.heap.size, 3, none⟩ = some (.int .u64 3) := blk_cell hmsg 3
                         have m4 : w3.cell? ⟨wr.heap.size, 4, none⟩ = some (.int .u64 4) := blk_cell hmsg 4
                         have m5 : w3.cell? ⟨wr.heap.size, 5, none⟩ = some (.int .u64 2) := blk_cell hmsg 5
                         have m6 : w3.cell? ⟨wr.heap.size, 6, none⟩ = some (.int .u64 4) := blk_cell hmsg 6
                         have m7 : w3.cell? ⟨wr.heap.size, 7, none⟩ = some (.slice (some ⟨E, 0, none⟩) 2 2) := blk_cell hmsg 7
                         have m8 : w3.cell? ⟨wr.heap.size, 8, none⟩ = some (.bool false) := blk_cell hmsg 8
                         have m9 : w3.cell? ⟨wr.heap.size, 9, none⟩ = some (.int .u64 0) := blk_cell hmsg 9
                         have m10 : w3.cell? ⟨wr.heap.size, 10, none⟩ = some (.int .u64 0) := blk_cell hmsg 10
                         have m11 : w3.cell? ⟨wr.heap.size, 11, none⟩ = some (.int .u64 0) := blk_cell hmsg 11
                         have m12 : w3.cell? ⟨wr.heap.size, 12, none⟩ = some (.int .u64 0) := blk_cell hmsg 12
                         have m13 : w3.cell? ⟨wr.heap.size, 13, none⟩ = some (.string ⟨#[]⟩) := blk_cell hmsg 13
                         have f7 : w3.frozen? ⟨wr.heap.size, 7, none⟩ = false := blk_frozen hmsg 7
                         have x4 := (hcl 4 _ rfl).1
                         have y4 := (hcl 4 _ rfl).2
                         have HOWN := Lib.hid hown
                         clear a0 a1 a2 a3 a4 a5 a6 a7 a8 a9 a10 a11 a12 a13 hi hz0 hz1 hz2 hown hgrow hat hb3 hcl hWW hmsg)
            clear m0 m1 m2 m3 m4 m5 m6 m7 m8 m9 m10 m11 m12 m13
            have hmF : ((w3.setCell ⟨wr.heap.size, 7, none⟩ (.slice (some ⟨g2, 0, none⟩) 2 cap2)).setCell ⟨g2, 4, none⟩ (.int .u64 7)).heap[wr.heap.size]? = some (.cells (mgCells mk12 (.slice (some ⟨g2, 0, none⟩) 2 cap2)) 27 (0, 0)) := blk_other (blk_set HMSG.out 7 _) hMg _
            have hent : EntsAt ((w3.setCell ⟨wr.heap.size, 7, none⟩ (.slice (some ⟨g2, 0, none⟩) 2 cap2)).setCell ⟨g2, 4, none⟩ (.int .u64 7)) (.slice (some ⟨g2, 0, none⟩) 2 cap2) mk12.es := own_ents (B := wr.heap.size + 1) (own_setIn (own_set HOWN.out ⟨wr.heap.size, 7, none⟩ (Nat.lt_succ_self _) _) 4 _)
            have hkc : KC w E a b c ((w3.setCell ⟨wr.heap.size, 7, none⟩ (.slice (some ⟨g2, 0, none⟩) 2 cap2)).setCell ⟨g2, 4, none⟩ (.int .u64 7)) := HK.out.step ((HBW.out.setCell (p := ⟨wr.heap.size, 7, none⟩) (Nat.le_refl _) _).setCell (p := ⟨g2, 4, none⟩) (by show wr.heap.size ≤ g2; omega) _)
            generalize hW : World.setCell _ _ _ = WF at hmF hent hkc ⊢
            clear hW
            have MF := Lib.hid hmF
            have EF := Lib.hid hent
            have KF := Lib.hid hkc
            clear hmF hent hkc
            refine (encode_any mk12 (.slice (some ⟨g2, 0, none⟩) 2 cap2) WF (mk12_fit) (fun hh => absurd hh (by rw [mk12_no]; decide)) EF.out).mono ?_
            rintro e w5 ⟨rfl, hb5⟩
            rw [show encB mk12 = [] from if_neg (by rw [mk12_no]; decide), show encE mk12 = 2 from if_neg (by rw [mk12_no]; decide)]
            have M5 := Lib.hid (blk_below hb5 (blk_lt MF.out) MF.out)
            have E5 := Lib.hid (EF.out.below hb5 (Nat.le_refl _))
            have K5 := Lib.hid (KF.out.step hb5)
            clear hb5 MF EF KF
            obtain ⟨c0, c1, c2, c3, c4, c5, c6, c7, c8, c9, c10, c11, c12, c13⟩ := mg_cells M5.out
            go_wp2_with fail
            clear c0 c1 c2 c3 c4 c5 c6 c7 c8 c9 c10 c11 c12 c13
            refine (check_any mk12 (.slice (some ⟨g2, 0, none⟩) 2 cap2) w5 (mk12_fit) E5.out).mono ?_
            rintro e w6 ⟨rfl, hb6⟩
            rw [show (if checkB mk12 = true then (0 : Int) else 2) = 2 from if_neg (by rw [mk12_no]; decide)]
            have K6 := Lib.hid (K5.out.step hb6)
            clear hb6
            go_wp2_with fail
            exact ⟨⟨13, by decide, rfl, K6.out⟩, by decide⟩
          · as_aux_lemma =>
            obtain ⟨Zs, hZs⟩ : ∃ Zs : Bs, Zs = List.replicate 20001 0 := ⟨_, rfl⟩
            have hZl : Zs.length = 20001 := by rw [hZs, List.length_replicate]
            have hmk : ∀ W, (Instr.makeSlice 47 (.int .i64 20001) (.int .i64 20001)).run Try.prog W = .ok (.slice (some ⟨W.heap.size, 0, none⟩) 20001 20001) (W.alloc (.cells (u8s Zs) 5)) := fun W => fill_make 20001 (by decide) Zs hZs W
            have hcv : ∀ W : World, (convert 47 9 (.slice (some ⟨W.heap.size, 0, none⟩) 20001 20001)).run Try.prog (W.alloc (.cells (u8s Zs) 5)) = .ok (.string (bs Zs)) (W.alloc (.cells (u8s Zs) 5)) := fun W => fill_conv 20001 Zs hZl _ _ (blk_new W _)
            have hcd : ∀ W : World, (convert 47 9 (.slice (some ⟨W.heap.size, 0, none⟩) 20001 20001)).run Try.prog (W.alloc (.cells (u8s Zs) 5)).drew = .ok (.string (bs Zs)) (W.alloc (.cells (u8s Zs) 5)).drew := fun W => fill_conv 20001 Zs hZl _ _ (blk_new W _)
            have HZL := Lib.hid hZl
            clear hZs hZl
            rw [show (((13 : Nat)) : Int) = 13 from rfl]
            have hEl := blk_lt HK.out.e
            have hal := blk_lt HK.out.a
            have hbl := blk_lt HK.out.b
            have hsz : ((wr.alloc (.cells #[.int .i64 3, .int .i64 6, .int .i64 0, .int .u64 3, .int .u64 4, .int .u64 2, .int .u64 4, .slice (some ⟨E, 0, none⟩) 2 2, .bool false, .int .u64 0, .int .u64 0, .int .u64 0, .int .u64 0, .string ⟨#[]⟩] 27)).alloc (.cells #[] 34)).heap.size = wr.heap.size + 2 := by rw [World.size_alloc, World.size_alloc]
            have hwp : Below wr.heap.size wr ((wr.alloc (.cells #[.int .i64 3, .int .i64 6, .int .i64 0, .int .u64 3, .int .u64 4, .int .u64 2, .int .u64 4, .slice (some ⟨E, 0, none⟩) 2 2, .bool false, .int .u64 0, .int .u64 0, .int .u64 0, .int .u64 0, .string ⟨#[]⟩] 27)).alloc (.cells #[] 34)) := ((Below.refl _ wr).alloc (Nat.le_refl _) _).alloc (by rw [World.size_alloc]; omega) _
            have hm0 : ((wr.alloc (.cells #[.int .i64 3, .int .i64 6, .int .i64 0, .int .u64 3, .int .u64 4, .int .u64 2, .int .u64 4, .slice (some ⟨E, 0, none⟩) 2 2, .bool false, .int .u64 0, .int .u64 0, .int .u64 0, .int .u64 0, .string ⟨#[]⟩] 27)).alloc (.cells #[] 34)).heap[wr.heap.size]? = some (.cells #[.int .i64 3, .int .i64 6, .int .i64 0, .int .u64 3, .int .u64 4, .int .u64 2, .int .u64 4, .slice (some ⟨E, 0, none⟩) 2 2, .bool false, .int .u64 0, .int .u64 0, .int .u64 0, .int .u64 0, .string ⟨#[]⟩] 27 (0, 0)) := blk_alloc (blk_new wr _) _
            have hz0 : ((wr.alloc (.cells #[.int .i64 3, .int .i64 6, .int .i64 0, .int .u64 3, .int .u64 4, .int .u64 2, .int .u64 4, .slice (some ⟨E, 0, none⟩) 2 2, .bool false, .int .u64 0, .int .u64 0, .int .u64 0, .int .u64 0, .string ⟨#[]⟩] 27)).alloc (.cells #[] 34)).heap[wr.heap.size + 1]? = some (.cells #[] 34 (0, 0)) := by
              have := blk_new (wr.alloc (.cells #[.int .i64 3, .int .i64 6, .int .i64 0, .int .u64 3, .int .u64 4, .int .u64 2, .int .u64 4, .slice (some ⟨E, 0, none⟩) 2 2, .bool false, .int .u64 0, .int .u64 0, .int .u64 0, .int .u64 0, .string ⟨#[]⟩] 27)) (.cells #[] 34 (0, 0))
              rwa [World.size_alloc] at this
            have hw0 : ((wr.alloc (.cells #[.int .i64 3, .int .i64 6, .int .i64 0, .int .u64 3, .int .u64 4, .int .u64 2, .int .u64 4, .slice (some ⟨E, 0, none⟩) 2 2, .bool false, .int .u64 0, .int .u64 0, .int .u64 0, .int .u64 0, .string ⟨#[]⟩] 27)).alloc (.cells #[] 34)).ownsRow (wr.heap.size + 1) 34 3 (.slice (some ⟨wr.heap.size + 1, 0, none⟩) 0 0) 0 [] := ⟨rfl, .inr ⟨wr.heap.size + 1, 0, #[], rfl, Nat.le_refl _, hz0, Nat.le_refl _, Nat.zero_le _, rfl, rfl⟩⟩
            have hn0 : ((wr.alloc (.cells #[.int .i64 3, .int .i64 6, .int .i64 0, .int .u64 3, .int .u64 4, .int .u64 2, .int .u64 4, .slice (some ⟨E, 0, none⟩) 2 2, .bool false, .int .u64 0, .int .u64 0, .int .u64 0, .int .u64 0, .string ⟨#[]⟩] 27)).alloc (.cells #[] 34)).heap[E]? = some (.cells #[.int .u64 2, .int .u64 5, .string ⟨#[97]⟩, .int .u64 3, .int .u64 6, .string ⟨#[]⟩] 34 (0, 0)) := blk_below hwp hEl HK.out.e
            have HSZ := Lib.hid hsz
            have HWP := Lib.hid hwp
            have HM0 := Lib.hid hm0
            have HW0 := Lib.hid hw0
            have HN0 := Lib.hid hn0
            clear hsz hwp hm0 hz0 hw0 hn0
            obtain ⟨i0, hi, hz0, hz1, hz2⟩ := info_parts info34
            have a0 : wr.cell? ⟨a, 0, none⟩ = some (.int .i64 3) := blk_cell HK.out.a 0
            have a1 : wr.cell? ⟨a, 1, none⟩ = some (.int .i64 6) := blk_cell HK.out.a 1
            have a2 : wr.cell? ⟨a, 2, none⟩ = some (.int .i64 0) := blk_cell HK.out.a 2
            have a3 : wr.cell? ⟨a, 3, none⟩ = some (.int .u64 3) := blk_cell HK.out.a 3
            have a4 : wr.cell? ⟨a, 4, none⟩ = some (.int .u64 4) := blk_cell HK.out.a 4
            have a5 : wr.cell? ⟨a, 5, none⟩ = some (.int .u64 2) := blk_cell HK.out.a 5
            have a6 : wr.cell? ⟨a, 6, none⟩ = some (.int .u64 4) := blk_cell HK.out.a 6
            have a7 : wr.cell? ⟨a, 7, none⟩ = some (.slice (some ⟨E, 0, none⟩) 2 2) := blk_cell HK.out.a 7
            have a8 : wr.cell? ⟨a, 8, none⟩ = some (.bool false) := blk_cell HK.out.a 8
            have a9 : wr.cell? ⟨a, 9, none⟩ = some (.int .u64 0) := blk_cell HK.out.a 9
            have a10 : wr.cell? ⟨a, 10, none⟩ = some (.int .u64 0) := blk_cell HK.out.a 10
            have a11 : wr.cell? ⟨a, 11, none⟩ = some (.int .u64 0) := blk_cell HK.out.a 11
            have a12 : wr.cell? ⟨a, 12, none⟩ = some (.int .u64 0) := blk_cell HK.out.a 12
            have a13 : wr.cell? ⟨a, 13, none⟩ = some (.string ⟨#[]⟩) := blk_cell HK.out.a 13
            go_wp2_with (at_builtin; refine wpList_append_lies _ rfl _ _ 23 rfl (wr.heap.size + 1) 34 i0 (.agg #[.int .u64 0, .int .u64 0, .string ⟨#[]⟩]) 3 32 Try.underlying23 hi hz0 hz1 hz2 rfl (by decide) (.slice (some ⟨wr.heap.size + 1, 0, none⟩) 0 0) 0 [] rfl HW0.out ⟨E, 0, none⟩ 2 2 (#[.int .u64 2, .int .u64 5, .string ⟨#[97]⟩, .int .u64 3, .int .u64 6, .string ⟨#[]⟩] : Array Value).toList rfl rfl (World.news_of_block HN0.out) ents_one (by decide) (by decide) (by decide) (by have := HSZ.out; omega) _ rfl ?_
                         intro g2 cap2 w3 hown hgrow hat hlt3
                         have hb3 := grown_below (r := wr.heap.size + 1) hgrow (by have := HSZ.out; omega)
                         have hmsg := blk_below hb3 (Nat.lt_succ_self _) HM0.out
                         have HMSG := Lib.hid hmsg
                         have hWW : Below wr.heap.size wr w3 := HWP.out.trans (hb3.mono (Nat.le_succ _))
                         have HBW := Lib.hid hWW
                         have hg2 := (own_cells hown).1
                         have hMg : ¬ wr.heap.size = g2 := by omega
                         have hgM : ¬ g2 = wr.heap.size := by omega
                         have hcl := (own_cells hown).2
                         have hMlt := blk_lt hmsg
                         have m0 : w3.cell? ⟨wr.heap.size, 0, none⟩ = some (.int .i64 3) := blk_cell hmsg 0
                         have m1 : w3.cell? ⟨wr.heap.size, 1, none⟩ = some (.int .i64 6) := blk_cell hmsg 1
                         have m2 : w3.cell? ⟨wr.heap.size, 2, none⟩ = some (.int .i64 0) := blk_cell hmsg 2
                         have m3 : w3.cell? ⟨wr.heap.size, 3, none⟩ = some (.int .u64 3) := blk_cell hmsg 3
                         have m4 : w3.cell? ⟨wr.heap.size, 4, none⟩ = some (.int .u64 4) := blk_cell hmsg 4
                         have m5 : w3.cell? ⟨wr.heap.size, 5, none⟩ = some (.int .u64 2) := blk_cell hmsg 5
                         have m6 : w3.cell? ⟨wr.heap.size, 6, none⟩ = some (.int .u64 4) := blk_cell hmsg 6
                         have m7 : w3.cell? ⟨wr.heap.size, 7, none⟩ = some (.slice (some ⟨E, 0, none⟩) 2 2) := blk_cell hmsg 7
                         have m8 : w3.cell? ⟨wr.heap.size, 8, none⟩ = some (.bool false) := blk_cell hmsg 8
                         have m9 : w3.cell? ⟨wr.heap.size, 9, none⟩ = some (.int .u64 0) := blk_cell hmsg 9
                         have m10 : w3.cell? ⟨wr.heap.size, 10, none⟩ = some (.int .u64 0) := blk_cell hmsg 10
                         have m11 : w3.cell? ⟨wr.heap.size, 11, none⟩ = some (.int .u64 0) := blk_cell hmsg 11
                         have m12 : w3.cell? ⟨wr.heap.size, 12, none⟩ = some (.int .u64 0) := blk_cell hmsg 12
                         have m13 : w3.cell? ⟨wr.heap.size, 13, none⟩ = some (.string ⟨#[]⟩) := blk_cell hmsg 13
                         have f7 : w3.frozen? ⟨wr.heap.size, 7, none⟩ = false := blk_frozen hmsg 7
                         have x2 := (hcl 2 _ rfl).1
                         have y2 := (hcl 2 _ rfl).2
                         have HOWN := Lib.hid hown
                         clear a0 a1 a2 a3 a4 a5 a6 a7 a8 a9 a10 a11 a12 a13 hi hz0 hz1 hz2 hown hgrow hat hb3 hcl hWW hmsg)
            clear m0 m1 m2 m3 m4 m5 m6 m7 m8 m9 m10 m11 m12 m13
            have hmA : (w3.setCell ⟨wr.heap.size, 7, none⟩ (.slice (some ⟨g2, 0, none⟩) 2 cap2)).heap[wr.heap.size]? = some (.cells (mgCells appM (.slice (some ⟨g2, 0, none⟩) 2 cap2)) 27 (0, 0)) := (blk_set HMSG.out 7 _).trans (congrArg (fun q => some (Obj.cells q 27 (0, 0))) (by kernel_rfl))
            have hoA := own_set HOWN.out ⟨wr.heap.size, 7, none⟩ (Nat.lt_succ_self _) (.slice (some ⟨g2, 0, none⟩) 2 cap2)
            have hbA : Below wr.heap.size wr (w3.setCell ⟨wr.heap.size, 7, none⟩ (.slice (some ⟨g2, 0, none⟩) 2 cap2)) := HBW.out.setCell (p := ⟨wr.heap.size, 7, none⟩) (Nat.le_refl _) _
            have h7 : (w3.setCell ⟨wr.heap.size, 7, none⟩ (.slice (some ⟨g2, 0, none⟩) 2 cap2)).cell? ⟨wr.heap.size, 7, none⟩ = some (.slice (some ⟨g2, 0, none⟩) 2 cap2) := blk_cell hmA 7
            have hx : (w3.setCell ⟨wr.heap.size, 7, none⟩ (.slice (some ⟨g2, 0, none⟩) 2 cap2)).cell? ⟨g2, 2, none⟩ = some (.string ⟨#[97]⟩) := ((own_cells hoA).2 2 _ rfl).1
            have hy : (w3.setCell ⟨wr.heap.size, 7, none⟩ (.slice (some ⟨g2, 0, none⟩) 2 cap2)).frozen? ⟨g2, 2, none⟩ = false := ((own_cells hoA).2 2 _ rfl).2
            have hsA : (w3.setCell ⟨wr.heap.size, 7, none⟩ (.slice (some ⟨g2, 0, none⟩) 2 cap2)).heap.size = w3.heap.size := size_set _ _ _
            obtain ⟨M, hM⟩ : ∃ M, M = wr.heap.size := ⟨_, rfl⟩
            have HWR := Lib.hid hM
            rw [← hM] at hmA hoA hbA h7 hx hy hMg hgM hMlt hg2 hsA ⊢
            generalize hW : World.setCell w3 _ _ = WA at hmA hoA hbA h7 hx hy hsA ⊢
            have hgl : g2 < WA.heap.size := World.block_lt_of_cell? WA _ hx
            have hMl : M < WA.heap.size := blk_lt hmA
            have HMA := Lib.hid hmA
            have HOA := Lib.hid hoA
            have HBA := Lib.hid hbA
            have HKR := HK
            clear x2 y2 f7 hW hmA hoA hbA hsA hM HBW HMSG HOWN HSZ HWP HM0 HW0 HN0 hMlt hEl hal hbl
            go_region
            have q0 : WA.cell? ⟨M, 0, none⟩ = some (.int .i64 3) := blk_cell HMA.out 0
            have q1 : WA.cell? ⟨M, 1, none⟩ = some (.int .i64 6) := blk_cell HMA.out 1
            have q2 : WA.cell? ⟨M, 2, none⟩ = some (.int .i64 0) := blk_cell HMA.out 2
            have q3 : WA.cell? ⟨M, 3, none⟩ = some (.int .u64 3) := blk_cell HMA.out 3
            have q4 : WA.cell? ⟨M, 4, none⟩ = some (.int .u64 4) := blk_cell HMA.out 4
            have q5 : WA.cell? ⟨M, 5, none⟩ = some (.int .u64 2) := blk_cell HMA.out 5
            have q6 : WA.cell? ⟨M, 6, none⟩ = some (.int .u64 4) := blk_cell HMA.out 6
            have q7 : WA.cell? ⟨M, 7, none⟩ = some (.slice (some ⟨g2, 0, none⟩) 2 cap2) := blk_cell HMA.out 7
            have q8 : WA.cell? ⟨M, 8, none⟩ = some (.bool false) := blk_cell HMA.out 8
            have q9 : WA.cell? ⟨M, 9, none⟩ = some (.int .u64 0) := blk_cell HMA.out 9
            have q10 : WA.cell? ⟨M, 10, none⟩ = some (.int .u64 0) := blk_cell HMA.out 10
            have q11 : WA.cell? ⟨M, 11, none⟩ = some (.int .u64 0) := blk_cell HMA.out 11
            have q12 : WA.cell? ⟨M, 12, none⟩ = some (.int .u64 0) := blk_cell HMA.out 12
            have q13 : WA.cell? ⟨M, 13, none⟩ = some (.string ⟨#[]⟩) := blk_cell HMA.out 13
            go_wp2_with fail
            clear q0 q1 q2 q3 q4 q5 q6 q7 q8 q9 q10 q11 q12 q13
            have hmF : ((WA.setCell ⟨g2, 2, none⟩ (.string (bs Zs))).alloc (.cells (u8s Zs) 5)).drew.heap[M]? = some (.cells (mgCells (mk13 Zs) (.slice (some ⟨g2, 0, none⟩) 2 cap2)) 27 (0, 0)) := blk_drew (blk_alloc (blk_other HMA.out (by show M ≠ g2; omega) _) _)
            have hent : EntsAt ((WA.setCell ⟨g2, 2, none⟩ (.string (bs Zs))).alloc (.cells (u8s Zs) 5)).drew (.slice (some ⟨g2, 0, none⟩) 2 cap2) (mk13 Zs).es := own_ents (B := M + 1) (own_drew (own_alloc (own_setIn HOA.out 2 (.string (bs Zs))) _))
            have hkc : KC w E a b c ((WA.setCell ⟨g2, 2, none⟩ (.string (bs Zs))).alloc (.cells (u8s Zs) 5)).drew := HKR.out.step (by
              rw [← HWR.out]
              exact (((HBA.out.setCell (p := ⟨g2, 2, none⟩) (by show M ≤ g2; omega) _).alloc (by rw [size_set]; omega) _)).drew)
            generalize hW : World.drew _ = WF at hmF hent hkc ⊢
            clear hW
            have MF := Lib.hid hmF
            have EF := Lib.hid hent
            have KF := Lib.hid hkc
            clear hmF hent hkc
            refine (encode_any (mk13 Zs) (.slice (some ⟨g2, 0, none⟩) 2 cap2) WF (mk13_fit HZL.out) (fun hh => absurd hh (by rw [mk13_no HZL.out]; decide)) EF.out).mono ?_
            rintro e w5 ⟨rfl, hb5⟩
            rw [show encB (mk13 Zs) = [] from if_neg (by rw [mk13_no HZL.out]; decide), show encE (mk13 Zs) = 2 from if_neg (by rw [mk13_no HZL.out]; decide)]
            have M5 := Lib.hid (blk_below hb5 (blk_lt MF.out) MF.out)
            have E5 := Lib.hid (EF.out.below hb5 (Nat.le_refl _))
            have K5 := Lib.hid (KF.out.step hb5)
            clear hb5 MF EF KF
            obtain ⟨c0, c1, c2, c3, c4, c5, c6, c7, c8, c9, c10, c11, c12, c13⟩ := mg_cells M5.out
            go_wp2_with fail
            clear c0 c1 c2 c3 c4 c5 c6 c7 c8 c9 c10 c11 c12 c13
            refine (check_any (mk13 Zs) (.slice (some ⟨g2, 0, none⟩) 2 cap2) w5 (mk13_fit HZL.out) E5.out).mono ?_
            rintro e w6 ⟨rfl, hb6⟩
            rw [show (if checkB (mk13 Zs) = true then (0 : Int) else 2) = 2 from if_neg (by rw [mk13_no HZL.out]; decide)]
            have K6 := Lib.hid (K5.out.step hb6)
            clear hb6
            go_wp2_with fail
            exact ⟨⟨14, by decide, rfl, K6.out⟩, by decide⟩
          · as_aux_lemma =>
            rw [show (((14 : Nat)) : Int) = 14 from rfl]
            have hEl := blk_lt HK.out.e
            have hal := blk_lt HK.out.a
            have hbl := blk_lt HK.out.b
            have hsz : ((wr.alloc (.cells #[.int .i64 3, .int .i64 6, .int .i64 0, .int .u64 3, .int .u64 4, .int .u64 2, .int .u64 4, .slice (some ⟨E, 0, none⟩) 2 2, .bool false, .int .u64 0, .int .u64 0, .int .u64 0, .int .u64 0, .string ⟨#[]⟩] 27)).alloc (.cells #[] 34)).heap.size = wr.heap.size + 2 := by rw [World.size_alloc, World.size_alloc]
            have hwp : Below wr.heap.size wr ((wr.alloc (.cells #[.int .i64 3, .int .i64 6, .int .i64 0, .int .u64 3, .int .u64 4, .int .u64 2, .int .u64 4, .slice (some ⟨E, 0, none⟩) 2 2, .bool false, .int .u64 0, .int .u64 0, .int .u64 0, .int .u64 0, .string ⟨#[]⟩] 27)).alloc (.cells #[] 34)) := ((Below.refl _ wr).alloc (Nat.le_refl _) _).alloc (by rw [World.size_alloc]; omega) _
            have hm0 : ((wr.alloc (.cells #[.int .i64 3, .int .i64 6, .int .i64 0, .int .u64 3, .int .u64 4, .int .u64 2, .int .u64 4, .slice (some ⟨E, 0, none⟩) 2 2, .bool false, .int .u64 0, .int .u64 0, .int .u64 0, .int .u64 0, .string ⟨#[]⟩] 27)).alloc (.cells #[] 34)).heap[wr.heap.size]? = some (.cells #[.int .i64 3, .int .i64 6, .int .i64 0, .int .u64 3, .int .u64 4, .int .u64 2, .int .u64 4, .slice (some ⟨E, 0, none⟩) 2 2, .bool false, .int .u64 0, .int .u64 0, .int .u64 0, .int .u64 0, .string ⟨#[]⟩] 27 (0, 0)) := blk_alloc (blk_new wr _) _
            have hz0 : ((wr.alloc (.cells #[.int .i64 3, .int .i64 6, .int .i64 0, .int .u64 3, .int .u64 4, .int .u64 2, .int .u64 4, .slice (some ⟨E, 0, none⟩) 2 2, .bool false, .int .u64 0, .int .u64 0, .int .u64 0, .int .u64 0, .string ⟨#[]⟩] 27)).alloc (.cells #[] 34)).heap[wr.heap.size + 1]? = some (.cells #[] 34 (0, 0)) := by
              have := blk_new (wr.alloc (.cells #[.int .i64 3, .int .i64 6, .int .i64 0, .int .u64 3, .int .u64 4, .int .u64 2, .int .u64 4, .slice (some ⟨E, 0, none⟩) 2 2, .bool false, .int .u64 0, .int .u64 0, .int .u64 0, .int .u64 0, .string ⟨#[]⟩] 27)) (.cells #[] 34 (0, 0))
              rwa [World.size_alloc] at this
            have hw0 : ((wr.alloc (.cells #[.int .i64 3, .int .i64 6, .int .i64 0, .int .u64 3, .int .u64 4, .int .u64 2, .int .u64 4, .slice (some ⟨E, 0, none⟩) 2 2, .bool false, .int .u64 0, .int .u64 0, .int .u64 0, .int .u64 0, .string ⟨#[]⟩] 27)).alloc (.cells #[] 34)).ownsRow (wr.heap.size + 1) 34 3 (.slice (some ⟨wr.heap.size + 1, 0, none⟩) 0 0) 0 [] := ⟨rfl, .inr ⟨wr.heap.size + 1, 0, #[], rfl, Nat.le_refl _, hz0, Nat.le_refl _, Nat.zero_le _, rfl, rfl⟩⟩
            have hn0 : ((wr.alloc (.cells #[.int .i64 3, .int .i64 6, .int .i64 0, .int .u64 3, .int .u64 4, .int .u64 2, .int .u64 4, .slice (some ⟨E, 0, none⟩) 2 2, .bool false, .int .u64 0, .int .u64 0, .int .u64 0, .int .u64 0, .string ⟨#[]⟩] 27)).alloc (.cells #[] 34)).heap[E]? = some (.cells #[.int .u64 2, .int .u64 5, .string ⟨#[97]⟩, .int .u64 3, .int .u64 6, .string ⟨#[]⟩] 34 (0, 0)) := blk_below hwp hEl HK.out.e
            have HSZ := Lib.hid hsz
            have HWP := Lib.hid hwp
            have HM0 := Lib.hid hm0
            have HW0 := Lib.hid hw0
            have HN0 := Lib.hid hn0
            clear hsz hwp hm0 hz0 hw0 hn0
            obtain ⟨i0, hi, hz0, hz1, hz2⟩ := info_parts info34
            have a0 : wr.cell? ⟨a, 0, none⟩ = some (.int .i64 3) := blk_cell HK.out.a 0
            have a1 : wr.cell? ⟨a, 1, none⟩ = some (.int .i64 6) := blk_cell HK.out.a 1
            have a2 : wr.cell? ⟨a, 2, none⟩ = some (.int .i64 0) := blk_cell HK.out.a 2
            have a3 : wr.cell? ⟨a, 3, none⟩ = some (.int .u64 3) := blk_cell HK.out.a 3
            have a4 : wr.cell? ⟨a, 4, none⟩ = some (.int .u64 4) := blk_cell HK.out.a 4
            have a5 : wr.cell? ⟨a, 5, none⟩ = some (.int .u64 2) := blk_cell HK.out.a 5
            have a6 : wr.cell? ⟨a, 6, none⟩ = some (.int .u64 4) := blk_cell HK.out.a 6
            have a7 : wr.cell? ⟨a, 7, none⟩ = some (.slice (some ⟨E, 0, none⟩) 2 2) := blk_cell HK.out.a 7
            have a8 : wr.cell? ⟨a, 8, none⟩ = some (.bool false) := blk_cell HK.out.a 8
            have a9 : wr.cell? ⟨a, 9, none⟩ = some (.int .u64 0) := blk_cell HK.out.a 9
            have a10 : wr.cell? ⟨a, 10, none⟩ = some (.int .u64 0) := blk_cell HK.out.a 10
            have a11 : wr.cell? ⟨a, 11, none⟩ = some (.int .u64 0) := blk_cell HK.out.a 11
            have a12 : wr.cell? ⟨a, 12, none⟩ = some (.int .u64 0) := blk_cell HK.out.a 12
            have a13 : wr.cell? ⟨a, 13, none⟩ = some (.string ⟨#[]⟩) := blk_cell HK.out.a 13
            go_wp2_with (at_builtin; refine wpList_append_lies _ rfl _ _ 23 rfl (wr.heap.size + 1) 34 i0 (.agg #[.int .u64 0, .int .u64 0, .string ⟨#[]⟩]) 3 32 Try.underlying23 hi hz0 hz1 hz2 rfl (by decide) (.slice (some ⟨wr.heap.size + 1, 0, none⟩) 0 0) 0 [] rfl HW0.out ⟨E, 0, none⟩ 2 2 (#[.int .u64 2, .int .u64 5, .string ⟨#[97]⟩, .int .u64 3, .int .u64 6, .string ⟨#[]⟩] : Array Value).toList rfl rfl (World.news_of_block HN0.out) ents_one (by decide) (by decide) (by decide) (by have := HSZ.out; omega) _ rfl ?_
                         intro g2 cap2 w3 hown hgrow hat hlt3
                         have hb3 := grown_below (r := wr.heap.size + 1) hgrow (by have := HSZ.out; omega)
                         have hmsg := blk_below hb3 (Nat.lt_succ_self _) HM0.out
                         have HMSG := Lib.hid hmsg
                         have hWW : Below wr.heap.size wr w3 := HWP.out.trans (hb3.mono (Nat.le_succ _))
                         have HBW := Lib.hid hWW
                         have hg2 := (own_cells hown).1
                         have hMg : ¬ wr.heap.size = g2 := by omega
                         have hgM : ¬ g2 = wr.heap.size := by omega
                         have hcl := (own_cells hown).2
                         have hMlt := blk_lt hmsg
                         have m0 : w3.cell? ⟨wr.heap.size, 0, none⟩ = some (.int .i64 3) := blk_cell hmsg 0
                         have m1 : w3.cell? ⟨wr.heap.size, 1, none⟩ = some (.int .i64 6) := blk_cell hmsg 1
                         have m2 : w3.cell? ⟨wr.heap.size, 2, none⟩ = some (.int .i64 0) := blk_cell hmsg 2
                         have m3 : w3.cell? ⟨wr.heap.size, 3, none⟩ = some (.int .u64 3) := blk_cell hmsg 3
                         have m4 : w3.cell? ⟨wr.heap.size, 4, none⟩ = some (.int .u64 4) := blk_cell hmsg 4
                         have m5 : w3.cell? ⟨wr.heap.size, 5, none⟩ = some (.int .u64 2) := blk_cell hmsg 5
                         have m6 : w3.cell? ⟨wr.heap.size, 6, none⟩ = some (.int .u64 4) := blk_cell hmsg 6
                         have m7 : w3.cell? ⟨wr.heap.size, 7, none⟩ = some (.slice (some ⟨E, 0, none⟩) 2 2) := blk_cell hmsg 7
                         have m8 : w3.cell? ⟨wr.heap.size, 8, none⟩ = some (.bool false) := blk_cell hmsg 8
                         have m9 : w3.cell? ⟨wr.heap.size, 9, none⟩ = some (.int .u64 0) := blk_cell hmsg 9
                         have m10 : w3.cell? ⟨wr.heap.size, 10, none⟩ = some (.int .u64 0) := blk_cell hmsg 10
                         have m11 : w3.cell? ⟨wr.heap.size, 11, none⟩ = some (.int .u64 0) := blk_cell hmsg 11
                         have m12 : w3.cell? ⟨wr.heap.size, 12, none⟩ = some (.int .u64 0) := blk_cell hmsg 12
                         have m13 : w3.cell? ⟨wr.heap.size, 13, none⟩ = some (.string ⟨#[]⟩) := blk_cell hmsg 13
                         have f7 : w3.frozen? ⟨wr.heap.size, 7, none⟩ = false := blk_frozen hmsg 7
                         have f11 : w3.frozen? ⟨wr.heap.size, 11, none⟩ = false := blk_frozen hmsg 11
                         have HOWN := Lib.hid hown
                         clear a0 a1 a2 a3 a4 a5 a6 a7 a8 a9 a10 a11 a12 a13 hi hz0 hz1 hz2 hown hgrow hat hb3 hcl hWW hmsg)
            clear m0 m1 m2 m3 m4 m5 m6 m7 m8 m9 m10 m11 m12 m13
            have hmF : ((w3.setCell ⟨wr.heap.size, 7, none⟩ (.slice (some ⟨g2, 0, none⟩) 2 cap2)).setCell ⟨wr.heap.size, 11, none⟩ (.int .u64 1)).heap[wr.heap.size]? = some (.cells (mgCells mk14 (.slice (some ⟨g2, 0, none⟩) 2 cap2)) 27 (0, 0)) := blk_set (blk_set HMSG.out 7 _) 11 _
            have hent : EntsAt ((w3.setCell ⟨wr.heap.size, 7, none⟩ (.slice (some ⟨g2, 0, none⟩) 2 cap2)).setCell ⟨wr.heap.size, 11, none⟩ (.int .u64 1)) (.slice (some ⟨g2, 0, none⟩) 2 cap2) mk14.es := own_ents (B := wr.heap.size + 1) (own_set (own_set HOWN.out ⟨wr.heap.size, 7, none⟩ (Nat.lt_succ_self _) _) ⟨wr.heap.size, 11, none⟩ (Nat.lt_succ_self _) _)
            have hkc : KC w E a b c ((w3.setCell ⟨wr.heap.size, 7, none⟩ (.slice (some ⟨g2, 0, none⟩) 2 cap2)).setCell ⟨wr.heap.size, 11, none⟩ (.int .u64 1)) := HK.out.step ((HBW.out.setCell (p := ⟨wr.heap.size, 7, none⟩) (Nat.le_refl _) _).setCell (p := ⟨wr.heap.size, 11, none⟩) (Nat.le_refl _) _)
            generalize hW : World.setCell _ _ _ = WF at hmF hent hkc ⊢
            clear hW
            have MF := Lib.hid hmF
            have EF := Lib.hid hent
            have KF := Lib.hid hkc
            clear hmF hent hkc
            refine (encode_any mk14 (.slice (some ⟨g2, 0, none⟩) 2 cap2) WF (mk14_fit) (fun hh => absurd hh (by rw [mk14_no]; decide)) EF.out).mono ?_
            rintro e w5 ⟨rfl, hb5⟩
            rw [show encB mk14 = [] from if_neg (by rw [mk14_no]; decide), show encE mk14 = 2 from if_neg (by rw [mk14_no]; decide)]
            have M5 := Lib.hid (blk_below hb5 (blk_lt MF.out) MF.out)
            have E5 := Lib.hid (EF.out.below hb5 (Nat.le_refl _))
            have K5 := Lib.hid (KF.out.step hb5)
            clear hb5 MF EF KF
            obtain ⟨c0, c1, c2, c3, c4, c5, c6, c7, c8, c9, c10, c11, c12, c13⟩ := mg_cells M5.out
            go_wp2_with fail
            clear c0 c1 c2 c3 c4 c5 c6 c7 c8 c9 c10 c11 c12 c13
            refine (check_any mk14 (.slice (some ⟨g2, 0, none⟩) 2 cap2) w5 (mk14_fit) E5.out).mono ?_
            rintro e w6 ⟨rfl, hb6⟩
            rw [show (if checkB mk14 = true then (0 : Int) else 2) = 2 from if_neg (by rw [mk14_no]; decide)]
            have K6 := Lib.hid (K5.out.step hb6)
            clear hb6
            go_wp2_with fail
            exact ⟨⟨15, by decide, rfl, K6.out⟩, by decide⟩
          · as_aux_lemma =>
            rw [show (((15 : Nat)) : Int) = 15 from rfl]
            have hEl := blk_lt HK.out.e
            have hal := blk_lt HK.out.a
            have hbl := blk_lt HK.out.b
            have hsz : ((wr.alloc (.cells #[.int .i64 3, .int .i64 6, .int .i64 0, .int .u64 3, .int .u64 4, .int .u64 2, .int .u64 4, .slice (some ⟨E, 0, none⟩) 2 2, .bool false, .int .u64 0, .int .u64 0, .int .u64 0, .int .u64 0, .string ⟨#[]⟩] 27)).alloc (.cells #[] 34)).heap.size = wr.heap.size + 2 := by rw [World.size_alloc, World.size_alloc]
            have hwp : Below wr.heap.size wr ((wr.alloc (.cells #[.int .i64 3, .int .i64 6, .int .i64 0, .int .u64 3, .int .u64 4, .int .u64 2, .int .u64 4, .slice (some ⟨E, 0, none⟩) 2 2, .bool false, .int .u64 0, .int .u64 0, .int .u64 0, .int .u64 0, .string ⟨#[]⟩] 27)).alloc (.cells #[] 34)) := ((Below.refl _ wr).alloc (Nat.le_refl _) _).alloc (by rw [World.size_alloc]; omega) _
            have hm0 : ((wr.alloc (.cells #[.int .i64 3, .int .i64 6, .int .i64 0, .int .u64 3, .int .u64 4, .int .u64 2, .int .u64 4, .slice (some ⟨E, 0, none⟩) 2 2, .bool false, .int .u64 0, .int .u64 0, .int .u64 0, .int .u64 0, .string ⟨#[]⟩] 27)).alloc (.cells #[] 34)).heap[wr.heap.size]? = some (.cells #[.int .i64 3, .int .i64 6, .int .i64 0, .int .u64 3, .int .u64 4, .int .u64 2, .int .u64 4, .slice (some ⟨E, 0, none⟩) 2 2, .bool false, .int .u64 0, .int .u64 0, .int .u64 0, .int .u64 0, .string ⟨#[]⟩] 27 (0, 0)) := blk_alloc (blk_new wr _) _
            have hz0 : ((wr.alloc (.cells #[.int .i64 3, .int .i64 6, .int .i64 0, .int .u64 3, .int .u64 4, .int .u64 2, .int .u64 4, .slice (some ⟨E, 0, none⟩) 2 2, .bool false, .int .u64 0, .int .u64 0, .int .u64 0, .int .u64 0, .string ⟨#[]⟩] 27)).alloc (.cells #[] 34)).heap[wr.heap.size + 1]? = some (.cells #[] 34 (0, 0)) := by
              have := blk_new (wr.alloc (.cells #[.int .i64 3, .int .i64 6, .int .i64 0, .int .u64 3, .int .u64 4, .int .u64 2, .int .u64 4, .slice (some ⟨E, 0, none⟩) 2 2, .bool false, .int .u64 0, .int .u64 0, .int .u64 0, .int .u64 0, .string ⟨#[]⟩] 27)) (.cells #[] 34 (0, 0))
              rwa [World.size_alloc] at this
            have hw0 : ((wr.alloc (.cells #[.int .i64 3, .int .i64 6, .int .i64 0, .int .u64 3, .int .u64 4, .int .u64 2, .int .u64 4, .slice (some ⟨E, 0, none⟩) 2 2, .bool false, .int .u64 0, .int .u64 0, .int .u64 0, .int .u64 0, .string ⟨#[]⟩] 27)).alloc (.cells #[] 34)).ownsRow (wr.heap.size + 1) 34 3 (.slice (some ⟨wr.heap.size + 1, 0, none⟩) 0 0) 0 [] := ⟨rfl, .inr ⟨wr.heap.size + 1, 0, #[], rfl, Nat.le_refl _, hz0, Nat.le_refl _, Nat.zero_le _, rfl, rfl⟩⟩
            have hn0 : ((wr.alloc (.cells #[.int .i64 3, .int .i64 6, .int .i64 0, .int .u64 3, .int .u64 4, .int .u64 2, .int .u64 4, .slice (some ⟨E, 0, none⟩) 2 2, .bool false, .int .u64 0, .int .u64 0, .int .u64 0, .int .u64 0, .string ⟨#[]⟩] 27)).alloc (.cells #[] 34)).heap[E]? = some (.cells #[.int .u64 2, .int .u64 5, .string ⟨#[97]⟩, .int .u64 3, .int .u64 6, .string ⟨#[]⟩] 34 (0, 0)) := blk_below hwp hEl HK.out.e
            have HSZ := Lib.hid hsz
            have HWP := Lib.hid hwp
            have HM0 := Lib.hid hm0
            have HW0 := Lib.hid hw0
            have HN0 := Lib.hid hn0
            clear hsz hwp hm0 hz0 hw0 hn0
            obtain ⟨i0, hi, hz0, hz1, hz2⟩ := info_parts info34
            have a0 : wr.cell? ⟨a, 0, none⟩ = some (.int .i64 3) := blk_cell HK.out.a 0
            have a1 : wr.cell? ⟨a, 1, none⟩ = some (.int .i64 6) := blk_cell HK.out.a 1
            have a2 : wr.cell? ⟨a, 2, none⟩ = some (.int .i64 0) := blk_cell HK.out.a 2
            have a3 : wr.cell? ⟨a, 3, none⟩ = some (.int .u64 3) := blk_cell HK.out.a 3
            have a4 : wr.cell? ⟨a, 4, none⟩ = some (.int .u64 4) := blk_cell HK.out.a 4
            have a5 : wr.cell? ⟨a, 5, none⟩ = some (.int .u64 2) := blk_cell HK.out.a 5
            have a6 : wr.cell? ⟨a, 6, none⟩ = some (.int .u64 4) := blk_cell HK.out.a 6
            have a7 : wr.cell? ⟨a, 7, none⟩ = some (.slice (some ⟨E, 0, none⟩) 2 2) := blk_cell HK.out.a 7
            have a8 : wr.cell? ⟨a, 8, none⟩ = some (.bool false) := blk_cell HK.out.a 8
            have a9 : wr.cell? ⟨a, 9, none⟩ = some (.int .u64 0) := blk_cell HK.out.a 9
            have a10 : wr.cell? ⟨a, 10, none⟩ = some (.int .u64 0) := blk_cell HK.out.a 10
            have a11 : wr.cell? ⟨a, 11, none⟩ = some (.int .u64 0) := blk_cell HK.out.a 11
            have a12 : wr.cell? ⟨a, 12, none⟩ = some (.int .u64 0) := blk_cell HK.out.a 12
            have a13 : wr.cell? ⟨a, 13, none⟩ = some (.string ⟨#[]⟩) := blk_cell HK.out.a 13
            go_wp2_with (at_builtin; refine wpList_append_lies _ rfl _ _ 23 rfl (wr.heap.size + 1) 34 i0 (.agg #[.int .u64 0, .int .u64 0, .string ⟨#[]⟩]) 3 32 Try.underlying23 hi hz0 hz1 hz2 rfl (by decide) (.slice (some ⟨wr.heap.size + 1, 0, none⟩) 0 0) 0 [] rfl HW0.out ⟨E, 0, none⟩ 2 2 (#[.int .u64 2, .int .u64 5, .string ⟨#[97]⟩, .int .u64 3, .int .u64 6, .string ⟨#[]⟩] : Array Value).toList rfl rfl (World.news_of_block HN0.out) ents_one (by decide) (by decide) (by decide) (by have := HSZ.out; omega) _ rfl ?_
                         intro g2 cap2 w3 hown hgrow hat hlt3
                         have hb3 := grown_below (r := wr.heap.size + 1) hgrow (by have := HSZ.out; omega)
                         have hmsg := blk_below hb3 (Nat.lt_succ_self _) HM0.out
                         have HMSG := Lib.hid hmsg
                         have hWW : Below wr.heap.size wr w3 := HWP.out.trans (hb3.mono (Nat.le_succ _))
                         have HBW := Lib.hid hWW
                         have hg2 := (own_cells hown).1
                         have hMg : ¬ wr.heap.size = g2 := by omega
                         have hgM : ¬ g2 = wr.heap.size := by omega
                         have hcl := (own_cells hown).2
                         have hMlt := blk_lt hmsg
                         have m0 : w3.cell? ⟨wr.heap.size, 0, none⟩ = some (.int .i64 3) := blk_cell hmsg 0
                         have m1 : w3.cell? ⟨wr.heap.size, 1, none⟩ = some (.int .i64 6) := blk_cell hmsg 1
                         have m2 : w3.cell? ⟨wr.heap.size, 2, none⟩ = some (.int .i64 0) := blk_cell hmsg 2
                         have m3 : w3.cell? ⟨wr.heap.size, 3, none⟩ = some (.int .u64 3) := blk_cell hmsg 3
                         have m4 : w3.cell? ⟨wr.heap.size, 4, none⟩ = some (.int .u64 4) := blk_cell hmsg 4
                         have m5 : w3.cell? ⟨wr.heap.size, 5, none⟩ = some (.int .u64 2) := blk_cell hmsg 5
                         have m6 : w3.cell? ⟨wr.heap.size, 6, none⟩ = some (.int .u64 4) := blk_cell hmsg 6
                         have m7 : w3.cell? ⟨wr.heap.size, 7, none⟩ = some (.slice (some ⟨E, 0, none⟩) 2 2) := blk_cell hmsg 7
                         have m8 : w3.cell? ⟨wr.heap.size, 8, none⟩ = some (.bool false) := blk_cell hmsg 8
                         have m9 : w3.cell? ⟨wr.heap.size, 9, none⟩ = some (.int .u64 0) := blk_cell hmsg 9
                         have m10 : w3.cell? ⟨wr.heap.size, 10, none⟩ = some (.int .u64 0) := blk_cell hmsg 10
                         have m11 : w3.cell? ⟨wr.heap.size, 11, none⟩ = some (.int .u64 0) := blk_cell hmsg 11
                         have m12 : w3.cell? ⟨wr.heap.size, 12, none⟩ = some (.int .u64 0) := blk_cell hmsg 12
                         have m13 : w3.cell? ⟨wr.heap.size, 13, none⟩ = some (.string ⟨#[]⟩) := blk_cell hmsg 13
                         have f0 : w3.frozen? ⟨wr.heap.size, 0, none⟩ = false := blk_frozen hmsg 0
                         have f7 : w3.frozen? ⟨wr.heap.size, 7, none⟩ = false := blk_frozen hmsg 7
                         have HOWN := Lib.hid hown
                         clear a0 a1 a2 a3 a4 a5 a6 a7 a8 a9 a10 a11 a12 a13 hi hz0 hz1 hz2 hown hgrow hat hb3 hcl hWW hmsg)
            clear m0 m1 m2 m3 m4 m5 m6 m7 m8 m9 m10 m11 m12 m13
            have hmF : ((w3.setCell ⟨wr.heap.size, 7, none⟩ (.slice (some ⟨g2, 0, none⟩) 2 cap2)).setCell ⟨wr.heap.size, 0, none⟩ (.int .i64 5)).heap[wr.heap.size]? = some (.cells (mgCells mk15 (.slice (some ⟨g2, 0, none⟩) 2 cap2)) 27 (0, 0)) := blk_set (blk_set HMSG.out 7 _) 0 _
            have hent : EntsAt ((w3.setCell ⟨wr.heap.size, 7, none⟩ (.slice (some ⟨g2, 0, none⟩) 2 cap2)).setCell ⟨wr.heap.size, 0, none⟩ (.int .i64 5)) (.slice (some ⟨g2, 0, none⟩) 2 cap2) mk15.es := own_ents (B := wr.heap.size + 1) (own_set (own_set HOWN.out ⟨wr.heap.size, 7, none⟩ (Nat.lt_succ_self _) _) ⟨wr.heap.size, 0, none⟩ (Nat.lt_succ_self _) _)
            have hkc : KC w E a b c ((w3.setCell ⟨wr.heap.size, 7, none⟩ (.slice (some ⟨g2, 0, none⟩) 2 cap2)).setCell ⟨wr.heap.size, 0, none⟩ (.int .i64 5)) := HK.out.step ((HBW.out.setCell (p := ⟨wr.heap.size, 7, none⟩) (Nat.le_refl _) _).setCell (p := ⟨wr.heap.size, 0, none⟩) (Nat.le_refl _) _)
            generalize hW : World.setCell _ _ _ = WF at hmF hent hkc ⊢
            clear hW
            have MF := Lib.hid hmF
            have EF := Lib.hid hent
            have KF := Lib.hid hkc
            clear hmF hent hkc
            refine (encode_any mk15 (.slice (some ⟨g2, 0, none⟩) 2 cap2) WF (mk15_fit) (fun hh => absurd hh (by rw [mk15_no]; decide)) EF.out).mono ?_
            rintro e w5 ⟨rfl, hb5⟩
            rw [show encB mk15 = [] from if_neg (by rw [mk15_no]; decide), show encE mk15 = 2 from if_neg (by rw [mk15_no]; decide)]
            have M5 := Lib.hid (blk_below hb5 (blk_lt MF.out) MF.out)
            have E5 := Lib.hid (EF.out.below hb5 (Nat.le_refl _))
            have K5 := Lib.hid (KF.out.step hb5)
            clear hb5 MF EF KF
            obtain ⟨c0, c1, c2, c3, c4, c5, c6, c7, c8, c9, c10, c11, c12, c13⟩ := mg_cells M5.out
            go_wp2_with fail
            clear c0 c1 c2 c3 c4 c5 c6 c7 c8 c9 c10 c11 c12 c13
            refine (check_any mk15 (.slice (some ⟨g2, 0, none⟩) 2 cap2) w5 (mk15_fit) E5.out).mono ?_
            rintro e w6 ⟨rfl, hb6⟩
            rw [show (if checkB mk15 = true then (0 : Int) else 2) = 2 from if_neg (by rw [mk15_no]; decide)]
            have K6 := Lib.hid (K5.out.step hb6)
            clear hb6
            go_wp2_with fail
            exact ⟨⟨16, by decide, rfl, K6.out⟩, by decide⟩
          · as_aux_lemma =>
            rw [show (((16 : Nat)) : Int) = 16 from rfl]
            have hEl := blk_lt HK.out.e
            have hal := blk_lt HK.out.a
            have hbl := blk_lt HK.out.b
            have hsz : ((wr.alloc (.cells #[.int .i64 3, .int .i64 6, .int .i64 0, .int .u64 3, .int .u64 4, .int .u64 2, .int .u64 4, .slice (some ⟨E, 0, none⟩) 2 2, .bool false, .int .u64 0, .int .u64 0, .int .u64 0, .int .u64 0, .string ⟨#[]⟩] 27)).alloc (.cells #[] 34)).heap.size = wr.heap.size + 2 := by rw [World.size_alloc, World.size_alloc]
            have hwp : Below wr.heap.size wr ((wr.alloc (.cells #[.int .i64 3, .int .i64 6, .int .i64 0, .int .u64 3, .int .u64 4, .int .u64 2, .int .u64 4, .slice (some ⟨E, 0, none⟩) 2 2, .bool false, .int .u64 0, .int .u64 0, .int .u64 0, .int .u64 0, .string ⟨#[]⟩] 27)).alloc (.cells #[] 34)) := ((Below.refl _ wr).alloc (Nat.le_refl _) _).alloc (by rw [World.size_alloc]; omega) _
            have hm0 : ((wr.alloc (.cells #[.int .i64 3, .int .i64 6, .int .i64 0, .int .u64 3, .int .u64 4, .int .u64 2, .int .u64 4, .slice (some ⟨E, 0, none⟩) 2 2, .bool false, .int .u64 0, .int .u64 0, .int .u64 0, .int .u64 0, .string ⟨#[]⟩] 27)).alloc (.cells #[] 34)).heap[wr.heap.size]? = some (.cells #[.int .i64 3, .int .i64 6, .int .i64 0, .int .u64 3, .int .u64 4, .int .u64 2, .int .u64 4, .slice (some ⟨E, 0, none⟩) 2 2, .bool false, .int .u64 0, .int .u64 0, .int .u64 0, .int .u64 0, .string ⟨#[]⟩] 27 (0, 0)) := blk_alloc (blk_new wr _) _
            have hz0 : ((wr.alloc (.cells #[.int .i64 3, .int .i64 6, .int .i64 0, .int .u64 3, .int .u64 4, .int .u64 2, .int .u64 4, .slice (some ⟨E, 0, none⟩) 2 2, .bool false, .int .u64 0, .int .u64 0, .int .u64 0, .int .u64 0, .string ⟨#[]⟩] 27)).alloc (.cells #[] 34)).heap[wr.heap.size + 1]? = some (.cells #[] 34 (0, 0)) := by
              have := blk_new (wr.alloc (.cells #[.int .i64 3, .int .i64 6, .int .i64 0, .int .u64 3, .int .u64 4, .int .u64 2, .int .u64 4, .slice (some ⟨E, 0, none⟩) 2 2, .bool false, .int .u64 0, .int .u64 0, .int .u64 0, .int .u64 0, .string ⟨#[]⟩] 27)) (.cells #[] 34 (0, 0))
              rwa [World.size_alloc] at this
            have hw0 : ((wr.alloc (.cells #[.int .i64 3, .int .i64 6, .int .i64 0, .int .u64 3, .int .u64 4, .int .u64 2, .int .u64 4, .slice (some ⟨E, 0, none⟩) 2 2, .bool false, .int .u64 0, .int .u64 0, .int .u64 0, .int .u64 0, .string ⟨#[]⟩] 27)).alloc (.cells #[] 34)).ownsRow (wr.heap.size + 1) 34 3 (.slice (some ⟨wr.heap.size + 1, 0, none⟩) 0 0) 0 [] := ⟨rfl, .inr ⟨wr.heap.size + 1, 0, #[], rfl, Nat.le_refl _, hz0, Nat.le_refl _, Nat.zero_le _, rfl, rfl⟩⟩
            have hn0 : ((wr.alloc (.cells #[.int .i64 3, .int .i64 6, .int .i64 0, .int .u64 3, .int .u64 4, .int .u64 2, .int .u64 4, .slice (some ⟨E, 0, none⟩) 2 2, .bool false, .int .u64 0, .int .u64 0, .int .u64 0, .int .u64 0, .string ⟨#[]⟩] 27)).alloc (.cells #[] 34)).heap[E]? = some (.cells #[.int .u64 2, .int .u64 5, .string ⟨#[97]⟩, .int .u64 3, .int .u64 6, .string ⟨#[]⟩] 34 (0, 0)) := blk_below hwp hEl HK.out.e
            have HSZ := Lib.hid hsz
            have HWP := Lib.hid hwp
            have HM0 := Lib.hid hm0
            have HW0 := Lib.hid hw0
            have HN0 := Lib.hid hn0
            clear hsz hwp hm0 hz0 hw0 hn0
            obtain ⟨i0, hi, hz0, hz1, hz2⟩ := info_parts info34
            have a0 : wr.cell? ⟨a, 0, none⟩ = some (.int .i64 3) := blk_cell HK.out.a 0
            have a1 : wr.cell? ⟨a, 1, none⟩ = some (.int .i64 6) := blk_cell HK.out.a 1
            have a2 : wr.cell? ⟨a, 2, none⟩ = some (.int .i64 0) := blk_cell HK.out.a 2
            have a3 : wr.cell? ⟨a, 3, none⟩ = some (.int .u64 3) := blk_cell HK.out.a 3
            have a4 : wr.cell? ⟨a, 4, none⟩ = some (.int .u64 4) := blk_cell HK.out.a 4
            have a5 : wr.cell? ⟨a, 5, none⟩ = some (.int .u64 2) := blk_cell HK.out.a 5
            have a6 : wr.cell? ⟨a, 6, none⟩ = some (.int .u64 4) := blk_cell HK.out.a 6
            have a7 : wr.cell? ⟨a, 7, none⟩ = some (.slice (some ⟨E, 0, none⟩) 2 2) := blk_cell HK.out.a 7
            have a8 : wr.cell? ⟨a, 8, none⟩ = some (.bool false) := blk_cell HK.out.a 8
            have a9 : wr.cell? ⟨a, 9, none⟩ = some (.int .u64 0) := blk_cell HK.out.a 9
            have a10 : wr.cell? ⟨a, 10, none⟩ = some (.int .u64 0) := blk_cell HK.out.a 10
            have a11 : wr.cell? ⟨a, 11, none⟩ = some (.int .u64 0) := blk_cell HK.out.a 11
            have a12 : wr.cell? ⟨a, 12, none⟩ = some (.int .u64 0) := blk_cell HK.out.a 12
            have a13 : wr.cell? ⟨a, 13, none⟩ = some (.string ⟨#[]⟩) := blk_cell HK.out.a 13
            go_upto_region 51 with (at_builtin; refine wpList_append_lies _ rfl _ _ 23 rfl (wr.heap.size + 1) 34 i0 (.agg #[.int .u64 0, .int .u64 0, .string ⟨#[]⟩]) 3 32 Try.underlying23 hi hz0 hz1 hz2 rfl (by decide) (.slice (some ⟨wr.heap.size + 1, 0, none⟩) 0 0) 0 [] rfl HW0.out ⟨E, 0, none⟩ 2 2 (#[.int .u64 2, .int .u64 5, .string ⟨#[97]⟩, .int .u64 3, .int .u64 6, .string ⟨#[]⟩] : Array Value).toList rfl rfl (World.news_of_block HN0.out) ents_one (by decide) (by decide) (by decide) (by have := HSZ.out; omega) _ rfl ?_
                                    intro g2 cap2 w3 hown hgrow hat hlt3
                                    have hb3 := grown_below (r := wr.heap.size + 1) hgrow (by have := HSZ.out; omega)
                                    have hmsg := blk_below hb3 (Nat.lt_succ_self _) HM0.out
                                    have HMSG := Lib.hid hmsg
                                    have hWW : Below wr.heap.size wr w3 := HWP.out.trans (hb3.mono (Nat.le_succ _))
                                    have HBW := Lib.hid hWW
                                    have hg2 := (own_cells hown).1
                                    have hMg : ¬ wr.heap.size = g2 := by omega
                                    have hgM : ¬ g2 = wr.heap.size := by omega
                                    have hcl := (own_cells hown).2
                                    have hMlt := blk_lt hmsg
                                    have m0 : w3.cell? ⟨wr.heap.size, 0, none⟩ = some (.int .i64 3) := blk_cell hmsg 0
                                    have m1 : w3.cell? ⟨wr.heap.size, 1, none⟩ = some (.int .i64 6) := blk_cell hmsg 1
                                    have m2 : w3.cell? ⟨wr.heap.size, 2, none⟩ = some (.int .i64 0) := blk_cell hmsg 2
                                    have m3 : w3.cell? ⟨wr.heap.size, 3, none⟩ = some (.int .u64 3) := blk_cell hmsg 3
                                    have m4 : w3.cell? ⟨wr.heap.size, 4, none⟩ = some (.int .u64 4) := blk_cell hmsg 4
                                    have m5 : w3.cell? ⟨wr.heap.size, 5, none⟩ = some (.int .u64 2) := blk_cell hmsg 5
                                    have m6 : w3.cell? ⟨wr.heap.size, 6, none⟩ = some (.int .u64 4) := blk_cell hmsg 6
                                    have m7 : w3.cell? ⟨wr.heap.size, 7, none⟩ = some (.slice (some ⟨E, 0, none⟩) 2 2) := blk_cell hmsg 7
                                    have m8 : w3.cell? ⟨wr.heap.size, 8, none⟩ = some (.bool false) := blk_cell hmsg 8
                                    have m9 : w3.cell? ⟨wr.heap.size, 9, none⟩ = some (.int .u64 0) := blk_cell hmsg 9
                                    have m10 : w3.cell? ⟨wr.heap.size, 10, none⟩ = some (.int .u64 0) := blk_cell hmsg 10
                                    have m11 : w3.cell? ⟨wr.heap.size, 11, none⟩ = some (.int .u64 0) := blk_cell hmsg 11
                                    have m12 : w3.cell? ⟨wr.heap.size, 12, none⟩ = some (.int .u64 0) := blk_cell hmsg 12
                                    have m13 : w3.cell? ⟨wr.heap.size, 13, none⟩ = some (.string ⟨#[]⟩) := blk_cell hmsg 13
                                    have f7 : w3.frozen? ⟨wr.heap.size, 7, none⟩ = false := blk_frozen hmsg 7
                                    have HOWN := Lib.hid hown
                                    clear a0 a1 a2 a3 a4 a5 a6 a7 a8 a9 a10 a11 a12 a13 hi hz0 hz1 hz2 hown hgrow hat hb3 hcl hWW hmsg)
            clear m0 m1 m2 m3 m4 m5 m6 m7 m8 m9 m10 m11 m12 m13
            have hmA : (w3.setCell ⟨wr.heap.size, 7, none⟩ (.slice (some ⟨g2, 0, none⟩) 2 cap2)).heap[wr.heap.size]? = some (.cells (mgCells appM (.slice (some ⟨g2, 0, none⟩) 2 cap2)) 27 (0, 0)) := (blk_set HMSG.out 7 _).trans (congrArg (fun q => some (Obj.cells q 27 (0, 0))) (by kernel_rfl))
            have hbA : Below wr.heap.size wr (w3.setCell ⟨wr.heap.size, 7, none⟩ (.slice (some ⟨g2, 0, none⟩) 2 cap2)) := HBW.out.setCell (p := ⟨wr.heap.size, 7, none⟩) (Nat.le_refl _) _
            obtain ⟨M, hM⟩ : ∃ M, M = wr.heap.size := ⟨_, rfl⟩
            have HWR := Lib.hid hM
            rw [← hM] at hmA hbA hbl ⊢
            generalize hW : World.setCell w3 _ _ = WA at hmA hbA ⊢
            have HMA := Lib.hid hmA
            have HBA := Lib.hid hbA
            have hkA : KC w E a b c WA := HK.out.step (by rw [← HWR.out]; exact hbA)
            have hMb : ¬ M = b := by omega
            have hbM : ¬ b = M := by omega
            clear hW f7 hM HBW HMSG HOWN HSZ HWP HM0 HW0 HN0 hMlt hEl hal hbl hmA hbA hMg hgM hg2
            go_upto_region 52 with (first
              | (refine wpList_load_row rfl 27 (.tmp 2) rfl b rfl 27 #[.int .i64 7, .int .i64 1, .int .i64 2, .int .u64 9, .int .u64 0, .int .u64 0, .int .u64 0, .slice none 0 0, .bool false, .int .u64 0, .int .u64 0, .int .u64 5, .int .u64 9, .string ⟨#[115, 116, 97, 116, 101]⟩] (0, 0) _ hkA.b Try.underlying27 rfl (by kernel_rfl) ?_)
              | (refine wpList_store_row rfl 27 (.tmp 11) (.tmp 145) rfl M #[.int .i64 7, .int .i64 1, .int .i64 2, .int .u64 9, .int .u64 0, .int .u64 0, .int .u64 0, .slice none 0 0, .bool false, .int .u64 0, .int .u64 0, .int .u64 5, .int .u64 9, .string ⟨#[115, 116, 97, 116, 101]⟩] rfl rfl 27 _ HMA.out (by kernel_rfl) rfl (by kernel_rfl) ?_))
            have hmB : (WA.setRow M #[.int .i64 7, .int .i64 1, .int .i64 2, .int .u64 9, .int .u64 0, .int .u64 0, .int .u64 0, .slice none 0 0, .bool false, .int .u64 0, .int .u64 0, .int .u64 5, .int .u64 9, .string ⟨#[115, 116, 97, 116, 101]⟩]).heap[M]? = some (.cells (mgCells snapM (.slice none 0 0)) 27 (0, 0)) := by
              rw [snapM_cells]
              exact setRow_heap WA M _ _ _ _ HMA.out
            have hbB : Below M wr (WA.setRow M #[.int .i64 7, .int .i64 1, .int .i64 2, .int .u64 9, .int .u64 0, .int .u64 0, .int .u64 0, .slice none 0 0, .bool false, .int .u64 0, .int .u64 0, .int .u64 5, .int .u64 9, .string ⟨#[115, 116, 97, 116, 101]⟩]) := ⟨HBA.out.os, HBA.out.tape, HBA.out.output, by rw [size_setRow]; exact HBA.out.size, fun j hj => (setRow_other WA M j _ (Nat.ne_of_lt hj)).trans (HBA.out.block j hj)⟩
            generalize hW : World.setRow _ _ _ = WB at hmB hbB ⊢
            have HMB := Lib.hid hmB
            have HBB := Lib.hid hbB
            have hMl := blk_lt hmB
            clear hW hmB hbB hkA HMA HBA
            have z0 : WB.cell? ⟨M, 0, none⟩ = some (.int .i64 7) := blk_cell HMB.out 0
            have z1 : WB.cell? ⟨M, 1, none⟩ = some (.int .i64 1) := blk_cell HMB.out 1
            have z2 : WB.cell? ⟨M, 2, none⟩ = some (.int .i64 2) := blk_cell HMB.out 2
            have z3 : WB.cell? ⟨M, 3, none⟩ = some (.int .u64 9) := blk_cell HMB.out 3
            have z4 : WB.cell? ⟨M, 4, none⟩ = some (.int .u64 0) := blk_cell HMB.out 4
            have z5 : WB.cell? ⟨M, 5, none⟩ = some (.int .u64 0) := blk_cell HMB.out 5
            have z6 : WB.cell? ⟨M, 6, none⟩ = some (.int .u64 0) := blk_cell HMB.out 6
            have z7 : WB.cell? ⟨M, 7, none⟩ = some (.slice none 0 0) := blk_cell HMB.out 7
            have z8 : WB.cell? ⟨M, 8, none⟩ = some (.bool false) := blk_cell HMB.out 8
            have z9 : WB.cell? ⟨M, 9, none⟩ = some (.int .u64 0) := blk_cell HMB.out 9
            have z10 : WB.cell? ⟨M, 10, none⟩ = some (.int .u64 0) := blk_cell HMB.out 10
            have z11 : WB.cell? ⟨M, 11, none⟩ = some (.int .u64 5) := blk_cell HMB.out 11
            have z12 : WB.cell? ⟨M, 12, none⟩ = some (.int .u64 9) := blk_cell HMB.out 12
            have z13 : WB.cell? ⟨M, 13, none⟩ = some (.string ⟨#[115, 116, 97, 116, 101]⟩) := blk_cell HMB.out 13
            have f12 := blk_frozen HMB.out 12
            go_wp2_with fail
            clear z0 z1 z2 z3 z4 z5 z6 z7 z8 z9 z10 z11 z12 z13
            have hmF : (WB.setCell ⟨M, 12, none⟩ (.int .u64 10)).heap[M]? = some (.cells (mgCells mk16 (.slice none 0 0)) 27 (0, 0)) := (blk_set HMB.out 12 _).trans (congrArg (fun q => some (Obj.cells q 27 (0, 0))) (by kernel_rfl))
            have hent : EntsAt (WB.setCell ⟨M, 12, none⟩ (.int .u64 10)) (.slice none 0 0) mk16.es := EntsAt.nil _
            have hkc : KC w E a b c (WB.setCell ⟨M, 12, none⟩ (.int .u64 10)) := HK.out.step (by
              rw [← HWR.out]
              exact HBB.out.setCell (p := ⟨M, 12, none⟩) (Nat.le_refl _) _)
            generalize hW : World.setCell _ _ _ = WF at hmF hent hkc ⊢
            clear hW
            have MF := Lib.hid hmF
            have EF := Lib.hid hent
            have KF := Lib.hid hkc
            clear hmF hent hkc
            refine (encode_any mk16 (.slice none 0 0) WF (mk16_fit) (fun hh => absurd hh (by rw [mk16_no]; decide)) EF.out).mono ?_
            rintro e w5 ⟨rfl, hb5⟩
            rw [show encB mk16 = [] from if_neg (by rw [mk16_no]; decide), show encE mk16 = 2 from if_neg (by rw [mk16_no]; decide)]
            have M5 := Lib.hid (blk_below hb5 (blk_lt MF.out) MF.out)
            have E5 := Lib.hid (EF.out.below hb5 (Nat.le_refl _))
            have K5 := Lib.hid (KF.out.step hb5)
            clear hb5 MF EF KF
            obtain ⟨c0, c1, c2, c3, c4, c5, c6, c7, c8, c9, c10, c11, c12, c13⟩ := mg_cells M5.out
            go_wp2_with fail
            clear c0 c1 c2 c3 c4 c5 c6 c7 c8 c9 c10 c11 c12 c13
            refine (check_any mk16 (.slice none 0 0) w5 (mk16_fit) E5.out).mono ?_
            rintro e w6 ⟨rfl, hb6⟩
            rw [show (if checkB mk16 = true then (0 : Int) else 2) = 2 from if_neg (by rw [mk16_no]; decide)]
            have K6 := Lib.hid (K5.out.step hb6)
            clear hb6
            go_wp2_with fail
            exact ⟨⟨17, by decide, rfl, K6.out⟩, by decide⟩
          · as_aux_lemma =>
            rw [show (((17 : Nat)) : Int) = 17 from rfl]
            have hEl := blk_lt HK.out.e
            have hal := blk_lt HK.out.a
            have hbl := blk_lt HK.out.b
            have hsz : ((wr.alloc (.cells #[.int .i64 3, .int .i64 6, .int .i64 0, .int .u64 3, .int .u64 4, .int .u64 2, .int .u64 4, .slice (some ⟨E, 0, none⟩) 2 2, .bool false, .int .u64 0, .int .u64 0, .int .u64 0, .int .u64 0, .string ⟨#[]⟩] 27)).alloc (.cells #[] 34)).heap.size = wr.heap.size + 2 := by rw [World.size_alloc, World.size_alloc]
            have hwp : Below wr.heap.size wr ((wr.alloc (.cells #[.int .i64 3, .int .i64 6, .int .i64 0, .int .u64 3, .int .u64 4, .int .u64 2, .int .u64 4, .slice (some ⟨E, 0, none⟩) 2 2, .bool false, .int .u64 0, .int .u64 0, .int .u64 0, .int .u64 0, .string ⟨#[]⟩] 27)).alloc (.cells #[] 34)) := ((Below.refl _ wr).alloc (Nat.le_refl _) _).alloc (by rw [World.size_alloc]; omega) _
            have hm0 : ((wr.alloc (.cells #[.int .i64 3, .int .i64 6, .int .i64 0, .int .u64 3, .int .u64 4, .int .u64 2, .int .u64 4, .slice (some ⟨E, 0, none⟩) 2 2, .bool false, .int .u64 0, .int .u64 0, .int .u64 0, .int .u64 0, .string ⟨#[]⟩] 27)).alloc (.cells #[] 34)).heap[wr.heap.size]? = some (.cells #[.int .i64 3, .int .i64 6, .int .i64 0, .int .u64 3, .int .u64 4, .int .u64 2, .int .u64 4, .slice (some ⟨E, 0, none⟩) 2 2, .bool false, .int .u64 0, .int .u64 0, .int .u64 0, .int .u64 0, .string ⟨#[]⟩] 27 (0, 0)) := blk_alloc (blk_new wr _) _
            have hz0 : ((wr.alloc (.cells #[.int .i64 3, .int .i64 6, .int .i64 0, .int .u64 3, .int .u64 4, .int .u64 2, .int .u64 4, .slice (some ⟨E, 0, none⟩) 2 2, .bool false, .int .u64 0, .int .u64 0, .int .u64 0, .int .u64 0, .string ⟨#[]⟩] 27)).alloc (.cells #[] 34)).heap[wr.heap.size + 1]? = some (.cells #[] 34 (0, 0)) := by
              have := blk_new (wr.alloc (.cells #[.int .i64 3, .int .i64 6, .int .i64 0, .int .u64 3, .int .u64 4, .int .u64 2, .int .u64 4, .slice (some ⟨E, 0, none⟩) 2 2, .bool false, .int .u64 0, .int .u64 0, .int .u64 0, .int .u64 0, .string ⟨#[]⟩] 27)) (.cells #[] 34 (0, 0))
              rwa [World.size_alloc] at this
            have hw0 : ((wr.alloc (.cells #[.int .i64 3, .int .i64 6, .int .i64 0, .int .u64 3, .int .u64 4, .int .u64 2, .int .u64 4, .slice (some ⟨E, 0, none⟩) 2 2, .bool false, .int .u64 0, .int .u64 0, .int .u64 0, .int .u64 0, .string ⟨#[]⟩] 27)).alloc (.cells #[] 34)).ownsRow (wr.heap.size + 1) 34 3 (.slice (some ⟨wr.heap.size + 1, 0, none⟩) 0 0) 0 [] := ⟨rfl, .inr ⟨wr.heap.size + 1, 0, #[], rfl, Nat.le_refl _, hz0, Nat.le_refl _, Nat.zero_le _, rfl, rfl⟩⟩
            have hn0 : ((wr.alloc (.cells #[.int .i64 3, .int .i64 6, .int .i64 0, .int .u64 3, .int .u64 4, .int .u64 2, .int .u64 4, .slice (some ⟨E, 0, none⟩) 2 2, .bool false, .int .u64 0, .int .u64 0, .int .u64 0, .int .u64 0, .string ⟨#[]⟩] 27)).alloc (.cells #[] 34)).heap[E]? = some (.cells #[.int .u64 2, .int .u64 5, .string ⟨#[97]⟩, .int .u64 3, .int .u64 6, .string ⟨#[]⟩] 34 (0, 0)) := blk_below hwp hEl HK.out.e
            have HSZ := Lib.hid hsz
            have HWP := Lib.hid hwp
            have HM0 := Lib.hid hm0
            have HW0 := Lib.hid hw0
            have HN0 := Lib.hid hn0
            clear hsz hwp hm0 hz0 hw0 hn0
            obtain ⟨i0, hi, hz0, hz1, hz2⟩ := info_parts info34
            have a0 : wr.cell? ⟨a, 0, none⟩ = some (.int .i64 3) := blk_cell HK.out.a 0
            have a1 : wr.cell? ⟨a, 1, none⟩ = some (.int .i64 6) := blk_cell HK.out.a 1
            have a2 : wr.cell? ⟨a, 2, none⟩ = some (.int .i64 0) := blk_cell HK.out.a 2
            have a3 : wr.cell? ⟨a, 3, none⟩ = some (.int .u64 3) := blk_cell HK.out.a 3
            have a4 : wr.cell? ⟨a, 4, none⟩ = some (.int .u64 4) := blk_cell HK.out.a 4
            have a5 : wr.cell? ⟨a, 5, none⟩ = some (.int .u64 2) := blk_cell HK.out.a 5
            have a6 : wr.cell? ⟨a, 6, none⟩ = some (.int .u64 4) := blk_cell HK.out.a 6
            have a7 : wr.cell? ⟨a, 7, none⟩ = some (.slice (some ⟨E, 0, none⟩) 2 2) := blk_cell HK.out.a 7
            have a8 : wr.cell? ⟨a, 8, none⟩ = some (.bool false) := blk_cell HK.out.a 8
            have a9 : wr.cell? ⟨a, 9, none⟩ = some (.int .u64 0) := blk_cell HK.out.a 9
            have a10 : wr.cell? ⟨a, 10, none⟩ = some (.int .u64 0) := blk_cell HK.out.a 10
            have a11 : wr.cell? ⟨a, 11, none⟩ = some (.int .u64 0) := blk_cell HK.out.a 11
            have a12 : wr.cell? ⟨a, 12, none⟩ = some (.int .u64 0) := blk_cell HK.out.a 12
            have a13 : wr.cell? ⟨a, 13, none⟩ = some (.string ⟨#[]⟩) := blk_cell HK.out.a 13
            go_upto_region 54 with (at_builtin; refine wpList_append_lies _ rfl _ _ 23 rfl (wr.heap.size + 1) 34 i0 (.agg #[.int .u64 0, .int .u64 0, .string ⟨#[]⟩]) 3 32 Try.underlying23 hi hz0 hz1 hz2 rfl (by decide) (.slice (some ⟨wr.heap.size + 1, 0, none⟩) 0 0) 0 [] rfl HW0.out ⟨E, 0, none⟩ 2 2 (#[.int .u64 2, .int .u64 5, .string ⟨#[97]⟩, .int .u64 3, .int .u64 6, .string ⟨#[]⟩] : Array Value).toList rfl rfl (World.news_of_block HN0.out) ents_one (by decide) (by decide) (by decide) (by have := HSZ.out; omega) _ rfl ?_
                                    intro g2 cap2 w3 hown hgrow hat hlt3
                                    have hb3 := grown_below (r := wr.heap.size + 1) hgrow (by have := HSZ.out; omega)
                                    have hmsg := blk_below hb3 (Nat.lt_succ_self _) HM0.out
                                    have HMSG := Lib.hid hmsg
                                    have hWW : Below wr.heap.size wr w3 := HWP.out.trans (hb3.mono (Nat.le_succ _))
                                    have HBW := Lib.hid hWW
                                    have hg2 := (own_cells hown).1
                                    have hMg : ¬ wr.heap.size = g2 := by omega
                                    have hgM : ¬ g2 = wr.heap.size := by omega
                                    have hcl := (own_cells hown).2
                                    have hMlt := blk_lt hmsg
                                    have m0 : w3.cell? ⟨wr.heap.size, 0, none⟩ = some (.int .i64 3) := blk_cell hmsg 0
                                    have m1 : w3.cell? ⟨wr.heap.size, 1, none⟩ = some (.int .i64 6) := blk_cell hmsg 1
                                    have m2 : w3.cell? ⟨wr.heap.size, 2, none⟩ = some (.int .i64 0) := blk_cell hmsg 2
                                    have m3 : w3.cell? ⟨wr.heap.size, 3, none⟩ = some (.int .u64 3) := blk_cell hmsg 3
                                    have m4 : w3.cell? ⟨wr.heap.size, 4, none⟩ = some (.int .u64 4) := blk_cell hmsg 4
                                    have m5 : w3.cell? ⟨wr.heap.size, 5, none⟩ = some (.int .u64 2) := blk_cell hmsg 5
                                    have m6 : w3.cell? ⟨wr.heap.size, 6, none⟩ = some (.int .u64 4) := blk_cell hmsg 6
                                    have m7 : w3.cell? ⟨wr.heap.size, 7, none⟩ = some (.slice (some ⟨E, 0, none⟩) 2 2) := blk_cell hmsg 7
                                    have m8 : w3.cell? ⟨wr.heap.size, 8, none⟩ = some (.bool false) := blk_cell hmsg 8
                                    have m9 : w3.cell? ⟨wr.heap.size, 9, none⟩ = some (.int .u64 0) := blk_cell hmsg 9
                                    have m10 : w3.cell? ⟨wr.heap.size, 10, none⟩ = some (.int .u64 0) := blk_cell hmsg 10
                                    have m11 : w3.cell? ⟨wr.heap.size, 11, none⟩ = some (.int .u64 0) := blk_cell hmsg 11
                                    have m12 : w3.cell? ⟨wr.heap.size, 12, none⟩ = some (.int .u64 0) := blk_cell hmsg 12
                                    have m13 : w3.cell? ⟨wr.heap.size, 13, none⟩ = some (.string ⟨#[]⟩) := blk_cell hmsg 13
                                    have f7 : w3.frozen? ⟨wr.heap.size, 7, none⟩ = false := blk_frozen hmsg 7
                                    have HOWN := Lib.hid hown
                                    clear a0 a1 a2 a3 a4 a5 a6 a7 a8 a9 a10 a11 a12 a13 hi hz0 hz1 hz2 hown hgrow hat hb3 hcl hWW hmsg)
            clear m0 m1 m2 m3 m4 m5 m6 m7 m8 m9 m10 m11 m12 m13
            have hmA : (w3.setCell ⟨wr.heap.size, 7, none⟩ (.slice (some ⟨g2, 0, none⟩) 2 cap2)).heap[wr.heap.size]? = some (.cells (mgCells appM (.slice (some ⟨g2, 0, none⟩) 2 cap2)) 27 (0, 0)) := (blk_set HMSG.out 7 _).trans (congrArg (fun q => some (Obj.cells q 27 (0, 0))) (by kernel_rfl))
            have hbA : Below wr.heap.size wr (w3.setCell ⟨wr.heap.size, 7, none⟩ (.slice (some ⟨g2, 0, none⟩) 2 cap2)) := HBW.out.setCell (p := ⟨wr.heap.size, 7, none⟩) (Nat.le_refl _) _
            obtain ⟨M, hM⟩ : ∃ M, M = wr.heap.size := ⟨_, rfl⟩
            have HWR := Lib.hid hM
            rw [← hM] at hmA hbA hbl ⊢
            generalize hW : World.setCell w3 _ _ = WA at hmA hbA ⊢
            have HMA := Lib.hid hmA
            have HBA := Lib.hid hbA
            have hkA : KC w E a b c WA := HK.out.step (by rw [← HWR.out]; exact hbA)
            have hMb : ¬ M = b := by omega
            have hbM : ¬ b = M := by omega
            clear hW f7 hM HBW HMSG HOWN HSZ HWP HM0 HW0 HN0 hMlt hEl hal hbl hmA hbA hMg hgM hg2
            go_upto_region 55 with (first
              | (refine wpList_load_row rfl 27 (.tmp 2) rfl b rfl 27 #[.int .i64 7, .int .i64 1, .int .i64 2, .int .u64 9, .int .u64 0, .int .u64 0, .int .u64 0, .slice none 0 0, .bool false, .int .u64 0, .int .u64 0, .int .u64 5, .int .u64 9, .string ⟨#[115, 116, 97, 116, 101]⟩] (0, 0) _ hkA.b Try.underlying27 rfl (by kernel_rfl) ?_)
              | (refine wpList_store_row rfl 27 (.tmp 11) (.tmp 150) rfl M #[.int .i64 7, .int .i64 1, .int .i64 2, .int .u64 9, .int .u64 0, .int .u64 0, .int .u64 0, .slice none 0 0, .bool false, .int .u64 0, .int .u64 0, .int .u64 5, .int .u64 9, .string ⟨#[115, 116, 97, 116, 101]⟩] rfl rfl 27 _ HMA.out (by kernel_rfl) rfl (by kernel_rfl) ?_))
            have hmB : (WA.setRow M #[.int .i64 7, .int .i64 1, .int .i64 2, .int .u64 9, .int .u64 0, .int .u64 0, .int .u64 0, .slice none 0 0, .bool false, .int .u64 0, .int .u64 0, .int .u64 5, .int .u64 9, .string ⟨#[115, 116, 97, 116, 101]⟩]).heap[M]? = some (.cells (mgCells snapM (.slice none 0 0)) 27 (0, 0)) := by
              rw [snapM_cells]
              exact setRow_heap WA M _ _ _ _ HMA.out
            have hbB : Below M wr (WA.setRow M #[.int .i64 7, .int .i64 1, .int .i64 2, .int .u64 9, .int .u64 0, .int .u64 0, .int .u64 0, .slice none 0 0, .bool false, .int .u64 0, .int .u64 0, .int .u64 5, .int .u64 9, .string ⟨#[115, 116, 97, 116, 101]⟩]) := ⟨HBA.out.os, HBA.out.tape, HBA.out.output, by rw [size_setRow]; exact HBA.out.size, fun j hj => (setRow_other WA M j _ (Nat.ne_of_lt hj)).trans (HBA.out.block j hj)⟩
            generalize hW : World.setRow _ _ _ = WB at hmB hbB ⊢
            have HMB := Lib.hid hmB
            have HBB := Lib.hid hbB
            have hMl := blk_lt hmB
            clear hW hmB hbB hkA HMA HBA
            have z0 : WB.cell? ⟨M, 0, none⟩ = some (.int .i64 7) := blk_cell HMB.out 0
            have z1 : WB.cell? ⟨M, 1, none⟩ = some (.int .i64 1) := blk_cell HMB.out 1
            have z2 : WB.cell? ⟨M, 2, none⟩ = some (.int .i64 2) := blk_cell HMB.out 2
            have z3 : WB.cell? ⟨M, 3, none⟩ = some (.int .u64 9) := blk_cell HMB.out 3
            have z4 : WB.cell? ⟨M, 4, none⟩ = some (.int .u64 0) := blk_cell HMB.out 4
            have z5 : WB.cell? ⟨M, 5, none⟩ = some (.int .u64 0) := blk_cell HMB.out 5
            have z6 : WB.cell? ⟨M, 6, none⟩ = some (.int .u64 0) := blk_cell HMB.out 6
            have z7 : WB.cell? ⟨M, 7, none⟩ = some (.slice none 0 0) := blk_cell HMB.out 7
            have z8 : WB.cell? ⟨M, 8, none⟩ = some (.bool false) := blk_cell HMB.out 8
            have z9 : WB.cell? ⟨M, 9, none⟩ = some (.int .u64 0) := blk_cell HMB.out 9
            have z10 : WB.cell? ⟨M, 10, none⟩ = some (.int .u64 0) := blk_cell HMB.out 10
            have z11 : WB.cell? ⟨M, 11, none⟩ = some (.int .u64 5) := blk_cell HMB.out 11
            have z12 : WB.cell? ⟨M, 12, none⟩ = some (.int .u64 9) := blk_cell HMB.out 12
            have z13 : WB.cell? ⟨M, 13, none⟩ = some (.string ⟨#[115, 116, 97, 116, 101]⟩) := blk_cell HMB.out 13
            have f11 := blk_frozen HMB.out 11
            go_wp2_with fail
            clear z0 z1 z2 z3 z4 z5 z6 z7 z8 z9 z10 z11 z12 z13
            have hmF : (WB.setCell ⟨M, 11, none⟩ (.int .u64 0)).heap[M]? = some (.cells (mgCells mk17 (.slice none 0 0)) 27 (0, 0)) := (blk_set HMB.out 11 _).trans (congrArg (fun q => some (Obj.cells q 27 (0, 0))) (by kernel_rfl))
            have hent : EntsAt (WB.setCell ⟨M, 11, none⟩ (.int .u64 0)) (.slice none 0 0) mk17.es := EntsAt.nil _
            have hkc : KC w E a b c (WB.setCell ⟨M, 11, none⟩ (.int .u64 0)) := HK.out.step (by
              rw [← HWR.out]
              exact HBB.out.setCell (p := ⟨M, 11, none⟩) (Nat.le_refl _) _)
            generalize hW : World.setCell _ _ _ = WF at hmF hent hkc ⊢
            clear hW
            have MF := Lib.hid hmF
            have EF := Lib.hid hent
            have KF := Lib.hid hkc
            clear hmF hent hkc
            refine (encode_any mk17 (.slice none 0 0) WF (mk17_fit) (fun hh => absurd hh (by rw [mk17_no]; decide)) EF.out).mono ?_
            rintro e w5 ⟨rfl, hb5⟩
            rw [show encB mk17 = [] from if_neg (by rw [mk17_no]; decide), show encE mk17 = 2 from if_neg (by rw [mk17_no]; decide)]
            have M5 := Lib.hid (blk_below hb5 (blk_lt MF.out) MF.out)
            have E5 := Lib.hid (EF.out.below hb5 (Nat.le_refl _))
            have K5 := Lib.hid (KF.out.step hb5)
            clear hb5 MF EF KF
            obtain ⟨c0, c1, c2, c3, c4, c5, c6, c7, c8, c9, c10, c11, c12, c13⟩ := mg_cells M5.out
            go_wp2_with fail
            clear c0 c1 c2 c3 c4 c5 c6 c7 c8 c9 c10 c11 c12 c13
            refine (check_any mk17 (.slice none 0 0) w5 (mk17_fit) E5.out).mono ?_
            rintro e w6 ⟨rfl, hb6⟩
            rw [show (if checkB mk17 = true then (0 : Int) else 2) = 2 from if_neg (by rw [mk17_no]; decide)]
            have K6 := Lib.hid (K5.out.step hb6)
            clear hb6
            go_wp2_with fail
            exact ⟨⟨18, by decide, rfl, K6.out⟩, by decide⟩
          · as_aux_lemma =>
            obtain ⟨Zs, hZs⟩ : ∃ Zs : Bs, Zs = List.replicate 60001 0 := ⟨_, rfl⟩
            have hZl : Zs.length = 60001 := by rw [hZs, List.length_replicate]
            have hmk : ∀ W, (Instr.makeSlice 47 (.int .i64 60001) (.int .i64 60001)).run Try.prog W = .ok (.slice (some ⟨W.heap.size, 0, none⟩) 60001 60001) (W.alloc (.cells (u8s Zs) 5)) := fun W => fill_make 60001 (by decide) Zs hZs W
            have hcv : ∀ W : World, (convert 47 9 (.slice (some ⟨W.heap.size, 0, none⟩) 60001 60001)).run Try.prog (W.alloc (.cells (u8s Zs) 5)) = .ok (.string (bs Zs)) (W.alloc (.cells (u8s Zs) 5)) := fun W => fill_conv 60001 Zs hZl _ _ (blk_new W _)
            have hcd : ∀ W : World, (convert 47 9 (.slice (some ⟨W.heap.size, 0, none⟩) 60001 60001)).run Try.prog (W.alloc (.cells (u8s Zs) 5)).drew = .ok (.string (bs Zs)) (W.alloc (.cells (u8s Zs) 5)).drew := fun W => fill_conv 60001 Zs hZl _ _ (blk_new W _)
            have HZL := Lib.hid hZl
            clear hZs hZl
            rw [show (((18 : Nat)) : Int) = 18 from rfl]
            have hEl := blk_lt HK.out.e
            have hal := blk_lt HK.out.a
            have hbl := blk_lt HK.out.b
            have hsz : ((wr.alloc (.cells #[.int .i64 3, .int .i64 6, .int .i64 0, .int .u64 3, .int .u64 4, .int .u64 2, .int .u64 4, .slice (some ⟨E, 0, none⟩) 2 2, .bool false, .int .u64 0, .int .u64 0, .int .u64 0, .int .u64 0, .string ⟨#[]⟩] 27)).alloc (.cells #[] 34)).heap.size = wr.heap.size + 2 := by rw [World.size_alloc, World.size_alloc]
            have hwp : Below wr.heap.size wr ((wr.alloc (.cells #[.int .i64 3, .int .i64 6, .int .i64 0, .int .u64 3, .int .u64 4, .int .u64 2, .int .u64 4, .slice (some ⟨E, 0, none⟩) 2 2, .bool false, .int .u64 0, .int .u64 0, .int .u64 0, .int .u64 0, .string ⟨#[]⟩] 27)).alloc (.cells #[] 34)) := ((Below.refl _ wr).alloc (Nat.le_refl _) _).alloc (by rw [World.size_alloc]; omega) _
            have hm0 : ((wr.alloc (.cells #[.int .i64 3, .int .i64 6, .int .i64 0, .int .u64 3, .int .u64 4, .int .u64 2, .int .u64 4, .slice (some ⟨E, 0, none⟩) 2 2, .bool false, .int .u64 0, .int .u64 0, .int .u64 0, .int .u64 0, .string ⟨#[]⟩] 27)).alloc (.cells #[] 34)).heap[wr.heap.size]? = some (.cells #[.int .i64 3, .int .i64 6, .int .i64 0, .int .u64 3, .int .u64 4, .int .u64 2, .int .u64 4, .slice (some ⟨E, 0, none⟩) 2 2, .bool false, .int .u64 0, .int .u64 0, .int .u64 0, .int .u64 0, .string ⟨#[]⟩] 27 (0, 0)) := blk_alloc (blk_new wr _) _
            have hz0 : ((wr.alloc (.cells #[.int .i64 3, .int .i64 6, .int .i64 0, .int .u64 3, .int .u64 4, .int .u64 2, .int .u64 4, .slice (some ⟨E, 0, none⟩) 2 2, .bool false, .int .u64 0, .int .u64 0, .int .u64 0, .int .u64 0, .string ⟨#[]⟩] 27)).alloc (.cells #[] 34)).heap[wr.heap.size + 1]? = some (.cells #[] 34 (0, 0)) := by
              have := blk_new (wr.alloc (.cells #[.int .i64 3, .int .i64 6, .int .i64 0, .int .u64 3, .int .u64 4, .int .u64 2, .int .u64 4, .slice (some ⟨E, 0, none⟩) 2 2, .bool false, .int .u64 0, .int .u64 0, .int .u64 0, .int .u64 0, .string ⟨#[]⟩] 27)) (.cells #[] 34 (0, 0))
              rwa [World.size_alloc] at this
            have hw0 : ((wr.alloc (.cells #[.int .i64 3, .int .i64 6, .int .i64 0, .int .u64 3, .int .u64 4, .int .u64 2, .int .u64 4, .slice (some ⟨E, 0, none⟩) 2 2, .bool false, .int .u64 0, .int .u64 0, .int .u64 0, .int .u64 0, .string ⟨#[]⟩] 27)).alloc (.cells #[] 34)).ownsRow (wr.heap.size + 1) 34 3 (.slice (some ⟨wr.heap.size + 1, 0, none⟩) 0 0) 0 [] := ⟨rfl, .inr ⟨wr.heap.size + 1, 0, #[], rfl, Nat.le_refl _, hz0, Nat.le_refl _, Nat.zero_le _, rfl, rfl⟩⟩
            have hn0 : ((wr.alloc (.cells #[.int .i64 3, .int .i64 6, .int .i64 0, .int .u64 3, .int .u64 4, .int .u64 2, .int .u64 4, .slice (some ⟨E, 0, none⟩) 2 2, .bool false, .int .u64 0, .int .u64 0, .int .u64 0, .int .u64 0, .string ⟨#[]⟩] 27)).alloc (.cells #[] 34)).heap[E]? = some (.cells #[.int .u64 2, .int .u64 5, .string ⟨#[97]⟩, .int .u64 3, .int .u64 6, .string ⟨#[]⟩] 34 (0, 0)) := blk_below hwp hEl HK.out.e
            have HSZ := Lib.hid hsz
            have HWP := Lib.hid hwp
            have HM0 := Lib.hid hm0
            have HW0 := Lib.hid hw0
            have HN0 := Lib.hid hn0
            clear hsz hwp hm0 hz0 hw0 hn0
            obtain ⟨i0, hi, hz0, hz1, hz2⟩ := info_parts info34
            have a0 : wr.cell? ⟨a, 0, none⟩ = some (.int .i64 3) := blk_cell HK.out.a 0
            have a1 : wr.cell? ⟨a, 1, none⟩ = some (.int .i64 6) := blk_cell HK.out.a 1
            have a2 : wr.cell? ⟨a, 2, none⟩ = some (.int .i64 0) := blk_cell HK.out.a 2
            have a3 : wr.cell? ⟨a, 3, none⟩ = some (.int .u64 3) := blk_cell HK.out.a 3
            have a4 : wr.cell? ⟨a, 4, none⟩ = some (.int .u64 4) := blk_cell HK.out.a 4
            have a5 : wr.cell? ⟨a, 5, none⟩ = some (.int .u64 2) := blk_cell HK.out.a 5
            have a6 : wr.cell? ⟨a, 6, none⟩ = some (.int .u64 4) := blk_cell HK.out.a 6
            have a7 : wr.cell? ⟨a, 7, none⟩ = some (.slice (some ⟨E, 0, none⟩) 2 2) := blk_cell HK.out.a 7
            have a8 : wr.cell? ⟨a, 8, none⟩ = some (.bool false) := blk_cell HK.out.a 8
            have a9 : wr.cell? ⟨a, 9, none⟩ = some (.int .u64 0) := blk_cell HK.out.a 9
            have a10 : wr.cell? ⟨a, 10, none⟩ = some (.int .u64 0) := blk_cell HK.out.a 10
            have a11 : wr.cell? ⟨a, 11, none⟩ = some (.int .u64 0) := blk_cell HK.out.a 11
            have a12 : wr.cell? ⟨a, 12, none⟩ = some (.int .u64 0) := blk_cell HK.out.a 12
            have a13 : wr.cell? ⟨a, 13, none⟩ = some (.string ⟨#[]⟩) := blk_cell HK.out.a 13
            go_upto_region 57 with (at_builtin; refine wpList_append_lies _ rfl _ _ 23 rfl (wr.heap.size + 1) 34 i0 (.agg #[.int .u64 0, .int .u64 0, .string ⟨#[]⟩]) 3 32 Try.underlying23 hi hz0 hz1 hz2 rfl (by decide) (.slice (some ⟨wr.heap.size + 1, 0, none⟩) 0 0) 0 [] rfl HW0.out ⟨E, 0, none⟩ 2 2 (#[.int .u64 2, .int .u64 5, .string ⟨#[97]⟩, .int .u64 3, .int .u64 6, .string ⟨#[]⟩] : Array Value).toList rfl rfl (World.news_of_block HN0.out) ents_one (by decide) (by decide) (by decide) (by have := HSZ.out; omega) _ rfl ?_
                                    intro g2 cap2 w3 hown hgrow hat hlt3
                                    have hb3 := grown_below (r := wr.heap.size + 1) hgrow (by have := HSZ.out; omega)
                                    have hmsg := blk_below hb3 (Nat.lt_succ_self _) HM0.out
                                    have HMSG := Lib.hid hmsg
                                    have hWW : Below wr.heap.size wr w3 := HWP.out.trans (hb3.mono (Nat.le_succ _))
                                    have HBW := Lib.hid hWW
                                    have hg2 := (own_cells hown).1
                                    have hMg : ¬ wr.heap.size = g2 := by omega
                                    have hgM : ¬ g2 = wr.heap.size := by omega
                                    have hcl := (own_cells hown).2
                                    have hMlt := blk_lt hmsg
                                    have m0 : w3.cell? ⟨wr.heap.size, 0, none⟩ = some (.int .i64 3) := blk_cell hmsg 0
                                    have m1 : w3.cell? ⟨wr.heap.size, 1, none⟩ = some (.int .i64 6) := blk_cell hmsg 1
                                    have m2 : w3.cell? ⟨wr.heap.size, 2, none⟩ = some (.int .i64 0) := blk_cell hmsg 2
                                    have m3 : w3.cell? ⟨wr.heap.size, 3, none⟩ = some (.int .u64 3) := blk_cell hmsg 3
                                    have m4 : w3.cell? ⟨wr.heap.size, 4, none⟩ = some (.int .u64 4) := blk_cell hmsg 4
                                    have m5 : w3.cell? ⟨wr.heap.size, 5, none⟩ = some (.int .u64 2) := blk_cell hmsg 5
                                    have m6 : w3.cell? ⟨wr.heap.size, 6, none⟩ = some (.int .u64 4) := blk_cell hmsg 6
                                    have m7 : w3.cell? ⟨wr.heap.size, 7, none⟩ = some (.slice (some ⟨E, 0, none⟩) 2 2) := blk_cell hmsg 7
                                    have m8 : w3.cell? ⟨wr.heap.size, 8, none⟩ = some (.bool false) := blk_cell hmsg 8
                                    have m9 : w3.cell? ⟨wr.heap.size, 9, none⟩ = some (.int .u64 0) := blk_cell hmsg 9
                                    have m10 : w3.cell? ⟨wr.heap.size, 10, none⟩ = some (.int .u64 0) := blk_cell hmsg 10
                                    have m11 : w3.cell? ⟨wr.heap.size, 11, none⟩ = some (.int .u64 0) := blk_cell hmsg 11
                                    have m12 : w3.cell? ⟨wr.heap.size, 12, none⟩ = some (.int .u64 0) := blk_cell hmsg 12
                                    have m13 : w3.cell? ⟨wr.heap.size, 13, none⟩ = some (.string ⟨#[]⟩) := blk_cell hmsg 13
                                    have f7 : w3.frozen? ⟨wr.heap.size, 7, none⟩ = false := blk_frozen hmsg 7
                                    have HOWN := Lib.hid hown
                                    clear a0 a1 a2 a3 a4 a5 a6 a7 a8 a9 a10 a11 a12 a13 hi hz0 hz1 hz2 hown hgrow hat hb3 hcl hWW hmsg)
            clear m0 m1 m2 m3 m4 m5 m6 m7 m8 m9 m10 m11 m12 m13
            have hmA : (w3.setCell ⟨wr.heap.size, 7, none⟩ (.slice (some ⟨g2, 0, none⟩) 2 cap2)).heap[wr.heap.size]? = some (.cells (mgCells appM (.slice (some ⟨g2, 0, none⟩) 2 cap2)) 27 (0, 0)) := (blk_set HMSG.out 7 _).trans (congrArg (fun q => some (Obj.cells q 27 (0, 0))) (by kernel_rfl))
            have hbA : Below wr.heap.size wr (w3.setCell ⟨wr.heap.size, 7, none⟩ (.slice (some ⟨g2, 0, none⟩) 2 cap2)) := HBW.out.setCell (p := ⟨wr.heap.size, 7, none⟩) (Nat.le_refl _) _
            obtain ⟨M, hM⟩ : ∃ M, M = wr.heap.size := ⟨_, rfl⟩
            have HWR := Lib.hid hM
            rw [← hM] at hmA hbA hbl ⊢
            generalize hW : World.setCell w3 _ _ = WA at hmA hbA ⊢
            have HMA := Lib.hid hmA
            have HBA := Lib.hid hbA
            have hkA : KC w E a b c WA := HK.out.step (by rw [← HWR.out]; exact hbA)
            have hMb : ¬ M = b := by omega
            have hbM : ¬ b = M := by omega
            clear hW f7 hM HBW HMSG HOWN HSZ HWP HM0 HW0 HN0 hMlt hEl hal hbl hmA hbA hMg hgM hg2
            go_upto_region 58 with (first
              | (refine wpList_load_row rfl 27 (.tmp 2) rfl b rfl 27 #[.int .i64 7, .int .i64 1, .int .i64 2, .int .u64 9, .int .u64 0, .int .u64 0, .int .u64 0, .slice none 0 0, .bool false, .int .u64 0, .int .u64 0, .int .u64 5, .int .u64 9, .string ⟨#[115, 116, 97, 116, 101]⟩] (0, 0) _ hkA.b Try.underlying27 rfl (by kernel_rfl) ?_)
              | (refine wpList_store_row rfl 27 (.tmp 11) (.tmp 155) rfl M #[.int .i64 7, .int .i64 1, .int .i64 2, .int .u64 9, .int .u64 0, .int .u64 0, .int .u64 0, .slice none 0 0, .bool false, .int .u64 0, .int .u64 0, .int .u64 5, .int .u64 9, .string ⟨#[115, 116, 97, 116, 101]⟩] rfl rfl 27 _ HMA.out (by kernel_rfl) rfl (by kernel_rfl) ?_))
            have hmB : (WA.setRow M #[.int .i64 7, .int .i64 1, .int .i64 2, .int .u64 9, .int .u64 0, .int .u64 0, .int .u64 0, .slice none 0 0, .bool false, .int .u64 0, .int .u64 0, .int .u64 5, .int .u64 9, .string ⟨#[115, 116, 97, 116, 101]⟩]).heap[M]? = some (.cells (mgCells snapM (.slice none 0 0)) 27 (0, 0)) := by
              rw [snapM_cells]
              exact setRow_heap WA M _ _ _ _ HMA.out
            have hbB : Below M wr (WA.setRow M #[.int .i64 7, .int .i64 1, .int .i64 2, .int .u64 9, .int .u64 0, .int .u64 0, .int .u64 0, .slice none 0 0, .bool false, .int .u64 0, .int .u64 0, .int .u64 5, .int .u64 9, .string ⟨#[115, 116, 97, 116, 101]⟩]) := ⟨HBA.out.os, HBA.out.tape, HBA.out.output, by rw [size_setRow]; exact HBA.out.size, fun j hj => (setRow_other WA M j _ (Nat.ne_of_lt hj)).trans (HBA.out.block j hj)⟩
            generalize hW : World.setRow _ _ _ = WB at hmB hbB ⊢
            have HMB := Lib.hid hmB
            have HBB := Lib.hid hbB
            have hMl := blk_lt hmB
            clear hW hmB hbB hkA HMA HBA
            have z0 : WB.cell? ⟨M, 0, none⟩ = some (.int .i64 7) := blk_cell HMB.out 0
            have z1 : WB.cell? ⟨M, 1, none⟩ = some (.int .i64 1) := blk_cell HMB.out 1
            have z2 : WB.cell? ⟨M, 2, none⟩ = some (.int .i64 2) := blk_cell HMB.out 2
            have z3 : WB.cell? ⟨M, 3, none⟩ = some (.int .u64 9) := blk_cell HMB.out 3
            have z4 : WB.cell? ⟨M, 4, none⟩ = some (.int .u64 0) := blk_cell HMB.out 4
            have z5 : WB.cell? ⟨M, 5, none⟩ = some (.int .u64 0) := blk_cell HMB.out 5
            have z6 : WB.cell? ⟨M, 6, none⟩ = some (.int .u64 0) := blk_cell HMB.out 6
            have z7 : WB.cell? ⟨M, 7, none⟩ = some (.slice none 0 0) := blk_cell HMB.out 7
            have z8 : WB.cell? ⟨M, 8, none⟩ = some (.bool false) := blk_cell HMB.out 8
            have z9 : WB.cell? ⟨M, 9, none⟩ = some (.int .u64 0) := blk_cell HMB.out 9
            have z10 : WB.cell? ⟨M, 10, none⟩ = some (.int .u64 0) := blk_cell HMB.out 10
            have z11 : WB.cell? ⟨M, 11, none⟩ = some (.int .u64 5) := blk_cell HMB.out 11
            have z12 : WB.cell? ⟨M, 12, none⟩ = some (.int .u64 9) := blk_cell HMB.out 12
            have z13 : WB.cell? ⟨M, 13, none⟩ = some (.string ⟨#[115, 116, 97, 116, 101]⟩) := blk_cell HMB.out 13
            have f13 := blk_frozen HMB.out 13
            go_wp2_with fail
            clear z0 z1 z2 z3 z4 z5 z6 z7 z8 z9 z10 z11 z12 z13
            have hmF : ((WB.setCell ⟨M, 13, none⟩ (.string (bs Zs))).alloc (.cells (u8s Zs) 5)).heap[M]? = some (.cells (mgCells (mk18 Zs) (.slice none 0 0)) 27 (0, 0)) := blk_alloc ((blk_set HMB.out 13 (.string (bs Zs))).trans (congrArg (fun q => some (Obj.cells q 27 (0, 0))) rfl)) _
            have hent : EntsAt ((WB.setCell ⟨M, 13, none⟩ (.string (bs Zs))).alloc (.cells (u8s Zs) 5)) (.slice none 0 0) (mk18 Zs).es := EntsAt.nil _
            have hkc : KC w E a b c ((WB.setCell ⟨M, 13, none⟩ (.string (bs Zs))).alloc (.cells (u8s Zs) 5)) := HK.out.step (by
              rw [← HWR.out]
              exact (HBB.out.setCell (p := ⟨M, 13, none⟩) (Nat.le_refl _) _).alloc (by rw [size_set]; omega) _)
            generalize hW : World.alloc _ _ = WF at hmF hent hkc ⊢
            clear hW
            have MF := Lib.hid hmF
            have EF := Lib.hid hent
            have KF := Lib.hid hkc
            clear hmF hent hkc
            refine (encode_any (mk18 Zs) (.slice none 0 0) WF (mk18_fit HZL.out) (fun hh => absurd hh (by rw [mk18_no HZL.out]; decide)) EF.out).mono ?_
            rintro e w5 ⟨rfl, hb5⟩
            rw [show encB (mk18 Zs) = [] from if_neg (by rw [mk18_no HZL.out]; decide), show encE (mk18 Zs) = 2 from if_neg (by rw [mk18_no HZL.out]; decide)]
            have M5 := Lib.hid (blk_below hb5 (blk_lt MF.out) MF.out)
            have E5 := Lib.hid (EF.out.below hb5 (Nat.le_refl _))
            have K5 := Lib.hid (KF.out.step hb5)
            clear hb5 MF EF KF
            obtain ⟨c0, c1, c2, c3, c4, c5, c6, c7, c8, c9, c10, c11, c12, c13⟩ := mg_cells M5.out
            go_wp2_with fail
            clear c0 c1 c2 c3 c4 c5 c6 c7 c8 c9 c10 c11 c12 c13
            refine (check_any (mk18 Zs) (.slice none 0 0) w5 (mk18_fit HZL.out) E5.out).mono ?_
            rintro e w6 ⟨rfl, hb6⟩
            rw [show (if checkB (mk18 Zs) = true then (0 : Int) else 2) = 2 from if_neg (by rw [mk18_no HZL.out]; decide)]
            have K6 := Lib.hid (K5.out.step hb6)
            clear hb6
            go_wp2_with fail
            exact ⟨⟨19, by decide, rfl, K6.out⟩, by decide⟩
        · as_aux_lemma =>
          obtain rfl : k = 19 := by omega
          rw [show (((19 : Nat)) : Int) = 19 from rfl]
          have BB := Lib.hid HK.out.below
          clear HK
          go_wp2_with fail
          have HSD := Lib.hid bad_empty
          refine (decode_any [] _ (fine_short (by decide))).mono ?_
          rintro e v1 ⟨v, rfl, hv, hb⟩
          rw [HSD.out] at hv ⊢
          obtain ⟨A, cap, rfl, -⟩ := hv.form2
          have B1 := Lib.hid (BB.out.trans (hb.mono BB.out.size))
          have BB := Lib.hid (B1.out.alloc B1.out.size (.cells #[.int .i64 0, .int .i64 0, .int .i64 0, .int .u64 0, .int .u64 0, .int .u64 0, .int .u64 0, .slice A zeroM.es.length cap, .bool false, .int .u64 0, .int .u64 0, .int .u64 0, .int .u64 0, .string ⟨#[]⟩] 27))
          clear hv hb HSD
          rw [zero_cells]
          go_wp2_with fail
          clear B1
          generalize hW : World.alloc v1 _ = x1 at BB ⊢
          clear hW
          refine (sealed_any [] _ (by decide)).mono ?_
          rintro e w2 ⟨rfl, hb⟩
          have B2 := Lib.hid (BB.out.trans (hb.mono BB.out.size))
          clear hb BB
          have hSl : (seal_ []).length ≤ 3004 := by rw [seal_length]; decide
          have hSd : decB (seal_ []) = (zeroM, 4) := bad_sealed0
          obtain ⟨S, hS⟩ : ∃ S, S = seal_ [] := ⟨_, rfl⟩
          rw [← hS] at hSl hSd ⊢
          have HSL := Lib.hid hSl
          have HSD := Lib.hid hSd
          clear hS hSl hSd
          have BB := B2
          clear B2
          go_wp2_with fail
          refine (decode_any S _ (fine_short HSL.out)).mono ?_
          rintro e v2 ⟨v, rfl, hv, hb⟩
          rw [HSD.out] at hv ⊢
          obtain ⟨A, cap, rfl, -⟩ := hv.form2
          have B2 := Lib.hid (BB.out.trans (hb.mono BB.out.size))
          have BB := Lib.hid (B2.out.alloc B2.out.size (.cells #[.int .i64 0, .int .i64 0, .int .i64 0, .int .u64 0, .int .u64 0, .int .u64 0, .int .u64 0, .slice A zeroM.es.length cap, .bool false, .int .u64 0, .int .u64 0, .int .u64 0, .int .u64 0, .string ⟨#[]⟩] 27))
          clear hv hb HSD
          rw [zero_cells]
          go_wp2_with fail
          clear B2
          generalize hW : World.alloc v2 _ = x2 at BB ⊢
          clear hW
          refine (sealed_any [5, 0, 1, 2, 0, 0, 3, 0, 2, 0, 0, 0, 0, 0] _ (by decide)).mono ?_
          rintro e w3 ⟨rfl, hb⟩
          have B3 := Lib.hid (BB.out.trans (hb.mono BB.out.size))
          clear hb BB
          have hSl : (seal_ [5, 0, 1, 2, 0, 0, 3, 0, 2, 0, 0, 0, 0, 0]).length ≤ 3004 := by rw [seal_length]; decide
          have hSd : decB (seal_ [5, 0, 1, 2, 0, 0, 3, 0, 2, 0, 0, 0, 0, 0]) = (zeroM, 4) := bad_sealed2
          obtain ⟨S, hS⟩ : ∃ S, S = seal_ [5, 0, 1, 2, 0, 0, 3, 0, 2, 0, 0, 0, 0, 0] := ⟨_, rfl⟩
          rw [← hS] at hSl hSd ⊢
          have HSL := Lib.hid hSl
          have HSD := Lib.hid hSd
          clear hS hSl hSd
          have BB := B3
          clear B3
          go_wp2_with fail
          refine (decode_any S _ (fine_short HSL.out)).mono ?_
          rintro e v3 ⟨v, rfl, hv, hb⟩
          rw [HSD.out] at hv ⊢
          obtain ⟨A, cap, rfl, -⟩ := hv.form2
          have B3 := Lib.hid (BB.out.trans (hb.mono BB.out.size))
          have BB := Lib.hid (B3.out.alloc B3.out.size (.cells #[.int .i64 0, .int .i64 0, .int .i64 0, .int .u64 0, .int .u64 0, .int .u64 0, .int .u64 0, .slice A zeroM.es.length cap, .bool false, .int .u64 0, .int .u64 0, .int .u64 0, .int .u64 0, .string ⟨#[]⟩] 27))
          clear hv hb HSD
          rw [zero_cells]
          go_wp2_with fail
          clear B3
          generalize hW : World.alloc v3 _ = x3 at BB ⊢
          clear hW
          refine (sealed_any [5, 0, 1, 2, 0, 0, 3, 0, 0, 0, 0, 0, 0, 0, 0] _ (by decide)).mono ?_
          rintro e w4 ⟨rfl, hb⟩
          have B4 := Lib.hid (BB.out.trans (hb.mono BB.out.size))
          clear hb BB
          have hSl : (seal_ [5, 0, 1, 2, 0, 0, 3, 0, 0, 0, 0, 0, 0, 0, 0]).length ≤ 3004 := by rw [seal_length]; decide
          have hSd : decB (seal_ [5, 0, 1, 2, 0, 0, 3, 0, 0, 0, 0, 0, 0, 0, 0]) = (zeroM, 4) := bad_sealed15
          obtain ⟨S, hS⟩ : ∃ S, S = seal_ [5, 0, 1, 2, 0, 0, 3, 0, 0, 0, 0, 0, 0, 0, 0] := ⟨_, rfl⟩
          rw [← hS] at hSl hSd ⊢
          have HSL := Lib.hid hSl
          have HSD := Lib.hid hSd
          clear hS hSl hSd
          have BB := B4
          clear B4
          go_wp2_with fail
          refine (decode_any S _ (fine_short HSL.out)).mono ?_
          rintro e v4 ⟨v, rfl, hv, hb⟩
          rw [HSD.out] at hv ⊢
          obtain ⟨A, cap, rfl, -⟩ := hv.form2
          have B4 := Lib.hid (BB.out.trans (hb.mono BB.out.size))
          have BB := Lib.hid (B4.out.alloc B4.out.size (.cells #[.int .i64 0, .int .i64 0, .int .i64 0, .int .u64 0, .int .u64 0, .int .u64 0, .int .u64 0, .slice A zeroM.es.length cap, .bool false, .int .u64 0, .int .u64 0, .int .u64 0, .int .u64 0, .string ⟨#[]⟩] 27))
          clear hv hb HSD
          rw [zero_cells]
          go_wp2_with fail
          clear B4
          generalize hW : World.alloc v4 _ = x4 at BB ⊢
          clear hW
          refine (getEntry_any [] _ (by decide)).mono ?_
          rintro e v5 ⟨rfl, hb⟩
          obtain ⟨y, hy⟩ : ∃ y, y = (getE []).1 := ⟨_, rfl⟩
          rw [show getV [] = .tuple #[.agg #[.int .u64 (y.t : Int), .int .u64 (y.i : Int), .string (bs y.d)], .int .i64 4] by rw [getV, bad_ent0, ← hy]; rfl]
          have B5 := Lib.hid (BB.out.trans (hb.mono BB.out.size))
          have BB := Lib.hid (B5.out.alloc B5.out.size (.cells #[.int .u64 (y.t : Int), .int .u64 (y.i : Int), .string (bs y.d)] 34))
          clear hb hy
          go_wp2_with fail
          clear B5
          generalize hW : World.alloc v5 _ = x5 at BB ⊢
          clear hW
          refine (getEntry_any [1, 2, 0, 0] _ (by decide)).mono ?_
          rintro e v6 ⟨rfl, hb⟩
          obtain ⟨y, hy⟩ : ∃ y, y = (getE [1, 2, 0, 0]).1 := ⟨_, rfl⟩
          rw [show getV [1, 2, 0, 0] = .tuple #[.agg #[.int .u64 (y.t : Int), .int .u64 (y.i : Int), .string (bs y.d)], .int .i64 4] by rw [getV, bad_ent4, ← hy]; rfl]
          have B6 := Lib.hid (BB.out.trans (hb.mono BB.out.size))
          have BB := Lib.hid (B6.out.alloc B6.out.size (.cells #[.int .u64 (y.t : Int), .int .u64 (y.i : Int), .string (bs y.d)] 34))
          clear hb hy
          go_wp2_with fail
          clear B6
          generalize hW : World.alloc v6 _ = x6 at BB ⊢
          clear hW
          refine (works_any x6).mono ?_
          rintro e w7 ⟨rfl, hb⟩
          have B7 := Lib.hid (BB.out.trans (hb.mono BB.out.size))
          clear hb
          go_wp2_with fail
          go_ret
          exact ⟨rfl, B7.out⟩
end Go.Proofs.Ytdemkcnhcgiheaa
