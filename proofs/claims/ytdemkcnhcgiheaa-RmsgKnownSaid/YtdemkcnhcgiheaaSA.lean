/- The walks of what the laws share: a message that beats; that it works. No condition. -/
import Derived.Test.YtdemkcnhcgiheaaDD
import Derived.Test.YtdemkcnhcgiheaaZ
import Derived.Test.YtdemkcnhcgiheaaX
namespace Go.Proofs.Ytdemkcnhcgiheaa
open Go.RowKit
def beatM : Mg := ⟨5, 0, 1, 2, 0, 0, 3, [], false, 0, 0, 0, 0, []⟩
theorem beat_any (w : World) : Calls Try.prog 22 #[] w fun e w' => e = .returned (.agg (mgCells beatM (.slice none 0 0))) ∧ Below w.heap.size w w' := by
  have e1 : mgCells beatM (.slice none 0 0) = #[.int .i64 5, .int .i64 0, .int .i64 1, .int .u64 2, .int .u64 0, .int .u64 0, .int .u64 3, .slice none 0 0, .bool false, .int .u64 0, .int .u64 0, .int .u64 0, .int .u64 0, .string ⟨#[]⟩] := by kernel_rfl
  rw [e1]
  clear e1
  go_enter Try.func22, Try.ntmps22
  go_wp2_with fail
  exact bodyPost_ret (results_cell_row (P := Try.prog) (p := 0) (ty := 27) rfl _ _ w.heap.size 27 _ (0, 0) _ rfl (blk_new w _) Try.underlying27 rfl (by kernel_rfl)) rfl ⟨rfl, (Below.refl _ w).alloc (Nat.le_refl _) _⟩
theorem beat_cells (v : Value) : mgCells beatM v = #[.int .i64 5, .int .i64 0, .int .i64 1, .int .u64 2, .int .u64 0, .int .u64 0, .int .u64 3, v, .bool false, .int .u64 0, .int .u64 0, .int .u64 0, .int .u64 0, .string ⟨#[]⟩] := by kernel_rfl
theorem beat_check : checkB beatM = true := by decide
theorem beat_lay : layB beatM = [5, 0, 1, 2, 0, 0, 3, 0, 0, 0, 0, 0, 0, 0] := by
  simp [layB, beatM, numsB, entsB, text, num]
theorem beat_fit : beatM.fit := ⟨by decide, by decide, by decide, by decide, by decide, by decide, by decide, by decide, by simp [beatM], by decide, by decide⟩
theorem beat_small : beatM.small := ⟨by simp [beatM], by decide⟩
def hiE : Ent := ⟨1, 2, [104, 105]⟩
theorem hi_ok : hiE.ok 90000 := ⟨by decide, by decide, by decide⟩
theorem getE_entB (e : Ent) (h : e.ok 90000) : getE (entB e) = (e, 0) := by
  have := rent_ent e 90000 (by decide) h []
  rw [List.append_nil] at this
  rw [getE, this]; rfl
/-- what works: the worlds in which the message that came back, and the entry, stand -/
def WkC (w : World) (g h : Nat) (v : Value) (W : World) : Prop := W.heap[g]? = some (.cells (mgCells beatM v) 27 (0, 0)) ∧ W.heap[h]? = some (.cells (entCells hiE) 34 (0, 0)) ∧ EntsAt W v beatM.es ∧ Below w.heap.size w W
theorem WkC.step {w W W' : World} {g h : Nat} {v : Value} (k : WkC w g h v W) (hb : Below W.heap.size W W') : WkC w g h v W' :=
  ⟨blk_below hb (blk_lt k.1) k.1, blk_below hb (blk_lt k.2.1) k.2.1, k.2.2.1.below hb (Nat.le_refl _), k.2.2.2.trans (hb.mono k.2.2.2.size)⟩
set_option maxRecDepth 100000 in
set_option maxHeartbeats 4000000 in
theorem works_any (w : World) : Calls Try.prog 15 #[] w fun e w' => e = .returned (.bool true) ∧ Below w.heap.size w w' := by
  go_enter Try.func15, Try.ntmps15
  go_wp2_with fail
  refine (beat_any w).mono ?_
  rintro e w1 ⟨rfl, hb1⟩
  have B1 := Lib.hid hb1
  clear hb1
  go_wp2_with fail
  refine (encode_any beatM _ w1 beat_fit (fun _ => beat_small) (EntsAt.nil _)).mono ?_
  rintro e w2 ⟨rfl, hb2⟩
  have B2 := Lib.hid (B1.out.trans (hb2.mono B1.out.size))
  clear hb2
  rw [show encE beatM = 0 from if_pos beat_check]
  obtain ⟨S, hS⟩ : ∃ S, S = encB beatM := ⟨_, rfl⟩
  rw [← hS]
  have hSl : S.length = 18 := by rw [hS, encB, if_pos beat_check, seal_length, beat_lay]; rfl
  have hSo : open_ S = some [5, 0, 1, 2, 0, 0, 3, 0, 0, 0, 0, 0, 0, 0] := by rw [hS, encB, if_pos beat_check, open_seal, beat_lay]
  have hSd : decB S = (beatM, 0) := by rw [hS]; exact dec_enc beat_fit beat_check
  have HSL := Lib.hid hSl
  have HSO := Lib.hid hSo
  have HSD := Lib.hid hSd
  clear hSl hSo hSd hS
  go_wp2_with fail
  refine (decode_any S w2 (fine_short (by have := HSL.out; omega))).mono ?_
  rintro e w3 ⟨v, rfl, hv, hb3⟩
  rw [HSD.out] at hv ⊢
  obtain ⟨A, cap, rfl, -⟩ := hv.form2
  have HV := Lib.hid hv
  have B3 := Lib.hid (B2.out.trans (hb3.mono B2.out.size))
  clear hv hb3
  rw [beat_cells]
  go_wp2_with fail
  refine (open_any S _ (by have := HSL.out; omega)).mono ?_
  rintro e w4 ⟨rfl, hb4⟩
  have hw4 : w4.heap[w3.heap.size]? = some (.cells (mgCells beatM (.slice A beatM.es.length cap)) 27 (0, 0)) := by
    rw [beat_cells]; exact blk_below hb4 (by rw [World.size_alloc]; omega) (blk_new w3 _)
  have B4 := Lib.hid ((B3.out.alloc B3.out.size _).trans (hb4.mono (by rw [World.size_alloc]; have := B3.out.size; omega)))
  have V4 := Lib.hid (HV.out.below (hb4.mono (B' := w3.heap.size) (by rw [World.size_alloc]; omega) |> fun h => ((Below.refl _ w3).alloc (Nat.le_refl _) _).trans h) (Nat.le_refl _))
  have M4 := Lib.hid hw4
  clear hb4 hw4
  rw [show openV S = .tuple #[.string (bs [5, 0, 1, 2, 0, 0, 3, 0, 0, 0, 0, 0, 0, 0]), .bool true] by rw [openV, HSO.out]; rfl]
  obtain ⟨g, hg⟩ : ∃ g, g = w3.heap.size := ⟨_, rfl⟩
  rw [← hg] at M4 ⊢
  clear hg
  go_wp2_with fail
  refine (putEntry_any [] hiE w4 hi_ok (by simp)).mono ?_
  rintro e w5 ⟨rfl, hb5⟩
  have B5 := Lib.hid (B4.out.trans (hb5.mono B4.out.size))
  have V5 := Lib.hid (V4.out.below hb5 (Nat.le_refl _))
  have M5 := Lib.hid (blk_below hb5 (blk_lt M4.out) M4.out)
  clear hb5
  rw [List.nil_append]
  obtain ⟨T, hT⟩ : ∃ T, T = entB hiE := ⟨_, rfl⟩
  rw [← hT]
  have hTl : T.length ≤ 1000000 := by rw [hT]; decide
  have hTv : getV T = .tuple #[.agg (entCells hiE), .int .i64 0] := by rw [hT, getV, getE_entB hiE hi_ok]
  have HTL := Lib.hid hTl
  have HTV := Lib.hid hTv
  clear hT hTl hTv
  go_wp2_with fail
  refine (getEntry_any T w5 HTL.out).mono ?_
  rintro e w6 ⟨rfl, hb6⟩
  have B6 := Lib.hid (B5.out.trans (hb6.mono B5.out.size))
  have V6 := Lib.hid (V5.out.below hb6 (Nat.le_refl _))
  have M6 := Lib.hid (blk_below hb6 (blk_lt M5.out) M5.out)
  clear hb6
  rw [HTV.out, show entCells hiE = #[.int .u64 1, .int .u64 2, .string ⟨#[104, 105]⟩] from rfl]
  clear B1 B2 B3 B4 B5 HV V4 V5 M4 M5 HSL HSO HSD HTL HTV
  clear w1 w2 w3 w4 w5
  go_wp2_with fail
  have hcls : WkC w g w6.heap.size (.slice A beatM.es.length cap) (w6.alloc (.cells #[.int .u64 1, .int .u64 2, .string ⟨#[104, 105]⟩] 34)) :=
    ⟨blk_alloc M6.out _, blk_new w6 _, V6.out.below ((Below.refl _ w6).alloc (Nat.le_refl _) _) (Nat.le_refl _), B6.out.alloc B6.out.size _⟩
  obtain ⟨h, hh⟩ : ∃ h, h = w6.heap.size := ⟨_, rfl⟩
  rw [← hh] at hcls ⊢
  clear hh
  generalize hW : World.alloc w6 _ = W at hcls ⊢
  clear hW M6 V6 B6
  obtain ⟨v, hv⟩ : ∃ v, v = Value.slice A beatM.es.length cap := ⟨_, rfl⟩
  rw [← hv] at hcls ⊢
  clear hv
  have h22 : ∀ x : In (WkC w g h v), Calls Try.prog 22 #[] x.w fun r w' => r = .returned (.agg (mgCells beatM (.slice none 0 0))) ∧ ∃ y : In (WkC w g h v), w' = y.w := by
    intro x
    refine (beat_any x.w).mono ?_
    rintro r w1 ⟨rfl, hb⟩
    exact ⟨rfl, ⟨w1, x.h.step hb⟩, rfl⟩
  have h21 : ∀ x : In (WkC w g h v), Calls Try.prog 21 #[.agg (mgCells beatM v), .agg (mgCells beatM (.slice none 0 0))] x.w fun r w' => r = .returned (.bool true) ∧ ∃ y : In (WkC w g h v), w' = y.w := by
    intro x
    refine (same_any beatM v (.slice none 0 0) x.w (by decide) x.h.2.2.1 (EntsAt.nil _)).mono ?_
    rintro r w1 ⟨rfl, hb⟩
    exact ⟨rfl, ⟨w1, x.h.step hb⟩, rfl⟩
  rw [beat_cells] at h22
  rw [beat_cells v, beat_cells (.slice none 0 0)] at h21
  have hg0 : ∀ (x : In (WkC w g h v)) (i : Nat), x.w.cell? ⟨g, i, none⟩ = (mgCells beatM v)[i]? := fun x i => blk_cell x.h.1 i
  rw [beat_cells] at hg0
  have a0 : ∀ x : In (WkC w g h v), x.w.cell? ⟨g, 0, none⟩ = some (.int .i64 5) := fun x => hg0 x 0
  have a1 : ∀ x : In (WkC w g h v), x.w.cell? ⟨g, 1, none⟩ = some (.int .i64 0) := fun x => hg0 x 1
  have a2 : ∀ x : In (WkC w g h v), x.w.cell? ⟨g, 2, none⟩ = some (.int .i64 1) := fun x => hg0 x 2
  have a3 : ∀ x : In (WkC w g h v), x.w.cell? ⟨g, 3, none⟩ = some (.int .u64 2) := fun x => hg0 x 3
  have a4 : ∀ x : In (WkC w g h v), x.w.cell? ⟨g, 4, none⟩ = some (.int .u64 0) := fun x => hg0 x 4
  have a5 : ∀ x : In (WkC w g h v), x.w.cell? ⟨g, 5, none⟩ = some (.int .u64 0) := fun x => hg0 x 5
  have a6 : ∀ x : In (WkC w g h v), x.w.cell? ⟨g, 6, none⟩ = some (.int .u64 3) := fun x => hg0 x 6
  have a7 : ∀ x : In (WkC w g h v), x.w.cell? ⟨g, 7, none⟩ = some v := fun x => hg0 x 7
  have a8 : ∀ x : In (WkC w g h v), x.w.cell? ⟨g, 8, none⟩ = some (.bool false) := fun x => hg0 x 8
  have a9 : ∀ x : In (WkC w g h v), x.w.cell? ⟨g, 9, none⟩ = some (.int .u64 0) := fun x => hg0 x 9
  have a10 : ∀ x : In (WkC w g h v), x.w.cell? ⟨g, 10, none⟩ = some (.int .u64 0) := fun x => hg0 x 10
  have a11 : ∀ x : In (WkC w g h v), x.w.cell? ⟨g, 11, none⟩ = some (.int .u64 0) := fun x => hg0 x 11
  have a12 : ∀ x : In (WkC w g h v), x.w.cell? ⟨g, 12, none⟩ = some (.int .u64 0) := fun x => hg0 x 12
  have a13 : ∀ x : In (WkC w g h v), x.w.cell? ⟨g, 13, none⟩ = some (.string ⟨#[]⟩) := fun x => hg0 x 13
  have b0 : ∀ x : In (WkC w g h v), x.w.cell? ⟨h, 0, none⟩ = some (.int .u64 1) := fun x => blk_cell x.h.2.1 0
  have b1 : ∀ x : In (WkC w g h v), x.w.cell? ⟨h, 1, none⟩ = some (.int .u64 2) := fun x => blk_cell x.h.2.1 1
  have b2 : ∀ x : In (WkC w g h v), x.w.cell? ⟨h, 2, none⟩ = some (.string ⟨#[104, 105]⟩) := fun x => blk_cell x.h.2.1 2
  have H22 := Lib.hid h22
  have H21 := Lib.hid h21
  have HC : Hid (WkC w g h v W.drew) := ⟨hcls.1, hcls.2.1, hcls.2.2.1, hcls.2.2.2.drew⟩
  have hne : Nonempty (In (WkC w g h v)) := ⟨⟨_, HC.out⟩⟩
  clear h22 h21 hg0 hcls
  refine wp_region_in (WkC w g h v) (by kernel_rfl) (by kernel_rfl) HC.out ?_
  repeat (any_goals (first | go_big_quiet_step (first | (go_at_call 22; exact H22.out _) | (go_at_call 21; exact H21.out _)) | quiet_step (first | (go_at_call 22; exact H22.out _) | (go_at_call 21; exact H21.out _))))
  refine wpQuiet_nil ?_
  intro x
  go_wp2_with fail
  go_ret
  exact ⟨rfl, x.h.2.2.2⟩
/-- bytes with their seal -/
theorem sealed_any (l : Bs) (w : World) (hl : l.length ≤ 900000) : Calls Try.prog 18 #[.string (bs l)] w fun e w' => e = .returned (.string (bs (seal_ l))) ∧ Below w.heap.size w w' := by
  go_enter Try.func18, Try.ntmps18
  go_wp2_with fail
  refine (seal_any l w hl).mono ?_
  rintro e w1 ⟨rfl, hb⟩
  have HB := Lib.hid hb
  clear hb
  go_wp2_with fail
  go_ret
  exact ⟨rfl, HB.out⟩
end Go.Proofs.Ytdemkcnhcgiheaa
