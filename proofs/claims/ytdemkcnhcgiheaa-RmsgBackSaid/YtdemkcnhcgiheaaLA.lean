/- The walk of RmsgLays. Condition: the numbers are of 64 bits. -/
import Derived.Test.YtdemkcnhcgiheaaMA
import Derived.Test.YtdemkcnhcgiheaaSA
import Derived.Test.YtdemkcnhcgiheaaWA
namespace Go.Proofs.Ytdemkcnhcgiheaa
open Go.RowKit
/-- a message that came in: its numbers are of 64 bits -/
structure Mg.wide (m : Mg) : Prop where
  term : m.term < 18446744073709551616
  ix : m.ix < 18446744073709551616
  lt : m.lt < 18446744073709551616
  cm : m.cm < 18446744073709551616
  hi : m.hi < 18446744073709551616
  cx : m.cx < 18446744073709551616
  si : m.si < 18446744073709551616
  st : m.st < 18446744073709551616
  es : ∀ e ∈ m.es, e.t < 18446744073709551616 ∧ e.i < 18446744073709551616
theorem cutM_ents {m : Mg} (h : m.wide) : ∀ e ∈ (cutM m).es, e.ok 200 := by
  intro e he
  obtain ⟨x, hx, rfl⟩ := List.mem_map.1 he
  have := h.es x (List.mem_of_mem_take hx)
  exact ⟨this.1, this.2, by show (x.d.take 200).length ≤ 200; rw [List.length_take]; omega⟩
theorem cutM_len (m : Mg) : (cutM m).es.length ≤ 70 := by
  show (cutEs m.es 70).length ≤ 70
  rw [cutEs, List.length_map, List.length_take]; omega
theorem Ent.ok.more {e : Ent} {a b : Nat} (h : e.ok a) (hab : a ≤ b) : e.ok b := ⟨h.t, h.i, Nat.le_trans h.d hab⟩
theorem cutM_sd (m : Mg) : (cutM m).sd.length ≤ 500 := by
  show (m.sd.take 500).length ≤ 500
  rw [List.length_take]; omega
theorem cutM_fit {m : Mg} (h : m.wide) : (cutM m).fit :=
  ⟨h.term, h.ix, h.lt, h.cm, h.hi, h.cx, h.si, h.st, fun e he => (cutM_ents h e he).more (by decide), by have := cutM_len m; omega, by have := cutM_sd m; omega⟩
theorem cutM_small {m : Mg} (h : m.wide) : (cutM m).small :=
  ⟨fun e he => by have := (cutM_ents h e he).d; omega, by have := cutM_sd m; omega⟩
/-- the worlds in which the message at g stands -/
def LyC (w : World) (g : Nat) (m : Mg) (v : Value) (W : World) : Prop := W.heap[g]? = some (.cells (mgCells m v) 27 (0, 0)) ∧ EntsAt W v m.es ∧ Below w.heap.size w W
theorem LyC.step {w W W' : World} {g : Nat} {m : Mg} {v : Value} (k : LyC w g m v W) (hb : Below W.heap.size W W') : LyC w g m v W' :=
  ⟨blk_below hb (blk_lt k.1) k.1, k.2.1.below hb (Nat.le_refl _), k.2.2.trans (hb.mono k.2.2.size)⟩
theorem LyC.drew {w W : World} {g : Nat} {m : Mg} {v : Value} (k : LyC w g m v W) : LyC w g m v W.drew := ⟨k.1, k.2.1, k.2.2.drew⟩
/-- an entry of a message that stands -/
theorem LyC.ent {w W : World} {g : Nat} {m : Mg} {A : Option Addr} {cap : Nat} (h : LyC w g m (.slice A m.es.length cap) W) (k : Nat) (hk : k < m.es.length) : ∃ ga, A = some ⟨ga, 0, none⟩ ∧
    ∀ x : In (LyC w g m (.slice A m.es.length cap)), x.w.cell? ⟨ga, k * 3, none⟩ = some (.int .u64 (m.es[k].t : Int)) ∧ x.w.cell? ⟨ga, k * 3 + 1, none⟩ = some (.int .u64 (m.es[k].i : Int)) ∧ x.w.cell? ⟨ga, k * 3 + 2, none⟩ = some (.string (bs m.es[k].d)) := by
  obtain ⟨A1, c1, e1, _, h1⟩ := h.2.1.form2
  cases e1
  obtain ⟨ga, rfl, _⟩ := h1 k hk
  refine ⟨ga, rfl, fun x => ?_⟩
  obtain ⟨A2, c2, e2, _, h2⟩ := x.h.2.1.form2
  cases e2
  obtain ⟨gb, e3, _, r⟩ := h2 k hk
  cases e3
  exact r
set_option maxRecDepth 100000 in
set_option maxHeartbeats 8000000 in
theorem lays_any (m0 : Mg) (v0 : Value) (w : World) (hw : m0.wide) (ha : ArgEnts w v0 m0.es) :
    Calls Try.prog 3 #[.agg (mgCells m0 v0)] w fun e w' => e = .returned (.bool true) ∧ Below w.heap.size w w' := by
  have HF := Lib.hid (cutM_fit hw)
  have HS := Lib.hid (cutM_small hw)
  have HO := Lib.hid (cutM_ents hw)
  have HL := Lib.hid (cutM_len m0)
  have hblk := blk_new w (.cells (mgCells m0 v0) 27 (0, 0))
  have hbel : Below w.heap.size w (w.alloc (.cells (mgCells m0 v0) 27)) := (Below.refl _ w).alloc (Nat.le_refl _) _
  have ha1 : ArgEnts (w.alloc (.cells (mgCells m0 v0) 27)) v0 m0.es := by
    obtain ⟨A, cap, rfl, h⟩ := ha
    refine ⟨A, cap, rfl, fun k hk => ?_⟩
    obtain ⟨b, off, e0, hb, d0, d1, d2⟩ := h k hk
    exact ⟨b, off, e0, by rw [World.size_alloc]; omega, (hbel.cell (p := ⟨b, off + k * 3, none⟩) hb).trans d0, (hbel.cell (p := ⟨b, off + k * 3 + 1, none⟩) hb).trans d1, (hbel.cell (p := ⟨b, off + k * 3 + 2, none⟩) hb).trans d2⟩
  clear ha hw
  unfold mgCells at hbel ha1
  rw [show mgCells m0 v0 = #[.int .i64 m0.k, .int .i64 m0.f, .int .i64 m0.t, .int .u64 (m0.term : Int), .int .u64 (m0.ix : Int), .int .u64 (m0.lt : Int), .int .u64 (m0.cm : Int), v0, .bool m0.rj, .int .u64 (m0.hi : Int), .int .u64 (m0.cx : Int), .int .u64 (m0.si : Int), .int .u64 (m0.st : Int), .string (bs m0.sd)] from rfl] at hblk
  have HBLK := Lib.hid hblk
  have HBEL := Lib.hid hbel
  have HA1 := Lib.hid ha1
  clear hblk hbel ha1
  obtain ⟨A0, cap0, rfl, _⟩ : ∃ A cap, v0 = .slice A m0.es.length cap ∧ True := by
    obtain ⟨A, cap, h, _⟩ := HA1.out
    exact ⟨A, cap, h, trivial⟩
  unfold mgCells
  go_enter Try.func3, Try.ntmps3
  go_wp2_with fail
  generalize hW : World.alloc w _ = W0 at HBLK HBEL HA1 ⊢
  clear hW
  refine (cut_any m0 (.slice A0 m0.es.length cap0) W0 HA1.out).mono ?_
  rintro e w1 ⟨v, rfl, hv, hb1⟩
  obtain ⟨m, hm⟩ : ∃ m, m = cutM m0 := ⟨_, rfl⟩
  rw [← hm] at HF HS HO HL hv ⊢
  clear hm
  obtain ⟨A, cap, rfl⟩ := own_slice hv
  have M1 : w1.heap[w.heap.size]? = some (.cells (mgCells m0 (.slice A0 m0.es.length cap0)) 27 (0, 0)) := blk_below hb1 (blk_lt HBLK.out) HBLK.out
  obtain ⟨N, hN⟩ : ∃ N, N = w.heap.size := ⟨_, rfl⟩
  have B1 := Lib.hid (HBEL.out.trans (hb1.mono HBEL.out.size))
  have hNW := blk_lt HBLK.out
  rw [← hN] at M1 hNW ⊢
  have HNN := Lib.hid hN
  obtain ⟨c0, c1, c2, c3, c4, c5, c6, c7, c8, c9, c10, c11, c12, c13⟩ := mg_cells M1
  have fz := mg_frozen M1
  have f0 := fz 0
  have f1 := fz 1
  have f2 := fz 2
  have f3 := fz 3
  have f4 := fz 4
  have f5 := fz 5
  have f6 := fz 6
  have f7 := fz 7
  have f8 := fz 8
  have f9 := fz 9
  have f10 := fz 10
  have f11 := fz 11
  have f12 := fz 12
  have f13 := fz 13
  have HV := Lib.hid hv
  have HM1 := Lib.hid M1
  clear fz hb1 hv HBEL HA1 HBLK hN M1
  unfold mgCells
  go_wp2_with fail
  clear f0 f1 f2 f3 f4 f5 f6 f7 f8 f9 f10 f11 f12 f13 c0 c1 c2 c3 c4 c5 c6 c7 c8 c9 c10 c11 c12 c13
  have L2 : LyC w N m (.slice A m.es.length cap) ((((((((((((((w1.setCell ⟨N, 0, none⟩ (.int .i64 m.k)).setCell ⟨N, 1, none⟩ (.int .i64 m.f)).setCell ⟨N, 2, none⟩ (.int .i64 m.t)).setCell ⟨N, 3, none⟩ (.int .u64 (m.term : Int))).setCell ⟨N, 4, none⟩ (.int .u64 (m.ix : Int))).setCell ⟨N, 5, none⟩ (.int .u64 (m.lt : Int))).setCell ⟨N, 6, none⟩ (.int .u64 (m.cm : Int))).setCell ⟨N, 7, none⟩ (.slice A m.es.length cap)).setCell ⟨N, 8, none⟩ (.bool m.rj)).setCell ⟨N, 9, none⟩ (.int .u64 (m.hi : Int))).setCell ⟨N, 10, none⟩ (.int .u64 (m.cx : Int))).setCell ⟨N, 11, none⟩ (.int .u64 (m.si : Int))).setCell ⟨N, 12, none⟩ (.int .u64 (m.st : Int))).setCell ⟨N, 13, none⟩ (.string (bs m.sd))) := by
    have hNB : N < W0.heap.size := hNW
    refine ⟨blk_set14 HM1.out _ _ _ _ _ _ _ _ _ _ _ _ _ _, ?_, But.below (b := N) (((((((((((((((but_of_below B1.out N).set 0 _).set 1 _).set 2 _).set 3 _).set 4 _).set 5 _).set 6 _).set 7 _).set 8 _).set 9 _).set 10 _).set 11 _).set 12 _).set 13 _) (Nat.le_of_eq HNN.out.symm)⟩
    exact own_ents (own_set (own_set (own_set (own_set (own_set (own_set (own_set (own_set (own_set (own_set (own_set (own_set (own_set (own_set HV.out _ hNB _) _ hNB _) _ hNB _) _ hNB _) _ hNB _) _ hNB _) _ hNB _) _ hNB _) _ hNB _) _ hNB _) _ hNB _) _ hNB _) _ hNB _) _ hNB _)
  generalize hW : World.setCell _ ⟨N, 13, none⟩ _ = W2 at L2 ⊢
  clear hW HM1 HV B1 hNW
  have L2 := Lib.hid L2
  refine (encode_any m (.slice A m.es.length cap) W2 HF.out (fun _ => HS.out) L2.out.2.1).mono ?_
  rintro e w3 ⟨rfl, hb3⟩
  have L3 := Lib.hid (L2.out.step hb3)
  clear hb3 L2
  obtain ⟨S, hS⟩ : ∃ S, S = encB m := ⟨_, rfl⟩
  obtain ⟨E, hE⟩ : ∃ E, E = encE m := ⟨_, rfl⟩
  rw [← hS, ← hE]
  have HSS := Lib.hid hS
  have HEE := Lib.hid hE
  clear hS hE
  obtain ⟨c0, c1, c2, c3, c4, c5, c6, c7, c8, c9, c10, c11, c12, c13⟩ := mg_cells L3.out.1
  go_wp2_with fail
  clear c0 c1 c2 c3 c4 c5 c6 c7 c8 c9 c10 c11 c12 c13
  refine (refEncode_any m (.slice A m.es.length cap) w3 HF.out (fun _ => HS.out) L3.out.2.1).mono ?_
  rintro e w4 ⟨rfl, hb4⟩
  have L4 := Lib.hid (L3.out.step hb4)
  clear hb4 L3
  rw [← HSS.out, ← HEE.out]
  clear HSS HEE
  go_wp2_with fail
  go_loopw [7] (fun i W => ∃ k : Nat, k ≤ m.es.length ∧ i = .int .i64 k ∧ Hid (LyC w N m (.slice A m.es.length cap) W)) (fun i _ => m.es.length - (intOf i).toNat)
  case atStart => exact ⟨0, Nat.zero_le _, rfl, L4.out⟩
  case round =>
    obtain ⟨k, hk, rfl, HL5⟩ := hrel
    have hk70 : k ≤ 70 := Nat.le_trans hk HL.out
    have x7 : wr.cell? ⟨N, 7, none⟩ = some (.slice A m.es.length cap) := blk_cell HL5.out.1 7
    by_cases hlt : k < m.es.length
    · as_aux_lemma =>
      obtain ⟨ga, hA, hel⟩ := HL5.out.ent k hlt
      subst hA
      obtain ⟨e, he⟩ : ∃ e, e = m.es[k] := ⟨_, rfl⟩
      have hek : e.ok 200 := he ▸ HO.out _ (List.getElem_mem hlt)
      have HEK := Lib.hid (hek.more (b := 90000) (by decide))
      rw [← he] at hel
      have e0 := fun x => (hel x).1
      have e1 := fun x => (hel x).2.1
      have e2 := fun x => (hel x).2.2
      have e7 : ∀ x : In (LyC w N m (.slice (some ⟨ga, 0, none⟩) m.es.length cap)), x.w.cell? ⟨N, 7, none⟩ = some (.slice (some ⟨ga, 0, none⟩) m.es.length cap) := fun x => blk_cell x.h.1 7
      have h11 : ∀ x : In (LyC w N m (.slice (some ⟨ga, 0, none⟩) m.es.length cap)), Calls Try.prog 11 #[.string ⟨#[115]⟩, .agg #[.int .u64 (e.t : Int), .int .u64 (e.i : Int), .string (bs e.d)]] x.w fun r w' => r = .returned (.string (bs ([115] ++ entB e))) ∧ ∃ y : In (LyC w N m (.slice (some ⟨ga, 0, none⟩) m.es.length cap)), w' = y.w := by
        intro x
        refine (putEntry_any [115] e x.w HEK.out (by decide)).mono ?_
        rintro r w1 ⟨rfl, hb⟩
        exact ⟨rfl, ⟨w1, x.h.step hb⟩, rfl⟩
      have h12 : ∀ x : In (LyC w N m (.slice (some ⟨ga, 0, none⟩) m.es.length cap)), Calls Try.prog 12 #[.string ⟨#[115]⟩, .agg #[.int .u64 (e.t : Int), .int .u64 (e.i : Int), .string (bs e.d)]] x.w fun r w' => r = .returned (.string (bs ([115] ++ entB e))) ∧ ∃ y : In (LyC w N m (.slice (some ⟨ga, 0, none⟩) m.es.length cap)), w' = y.w := by
        intro x
        refine (refPutEntry_any [115] e x.w HEK.out (by decide)).mono ?_
        rintro r w1 ⟨rfl, hb⟩
        exact ⟨rfl, ⟨w1, x.h.step hb⟩, rfl⟩
      obtain ⟨Z, hZ⟩ : ∃ Z, Z = [115] ++ entB e := ⟨_, rfl⟩
      rw [← hZ] at h11 h12
      have H11 := Lib.hid h11
      have H12 := Lib.hid h12
      have HC : Hid (LyC w N m (.slice (some ⟨ga, 0, none⟩) m.es.length cap) wr.drew) := HL5.out.drew
      have hne : Nonempty (In (LyC w N m (.slice (some ⟨ga, 0, none⟩) m.es.length cap))) := ⟨⟨_, HC.out⟩⟩
      clear h11 h12 hZ he hel hek HEK
      go_wp2_with fail
      refine wp_region_in (LyC w N m (.slice (some ⟨ga, 0, none⟩) m.es.length cap)) (by kernel_rfl) (by kernel_rfl) HC.out ?_
      repeat (any_goals (first | go_big_quiet_step (first | (go_at_call 11; exact H11.out _) | (go_at_call 12; exact H12.out _)) | quiet_step (first | (go_at_call 11; exact H11.out _) | (go_at_call 12; exact H12.out _))))
      refine wpQuiet_nil ?_
      intro x
      go_wp2_with fail
      exact ⟨⟨k + 1, by omega, by go_num, x.h⟩, by simp [intOf]; omega⟩
    · as_aux_lemma =>
      obtain rfl : k = m.es.length := by omega
      obtain ⟨c, hc⟩ : ∃ c : Int, c = (if checkB m = true then 0 else 2) := ⟨_, rfl⟩
      have h13 : ∀ x : In (LyC w N m (.slice A m.es.length cap)), Calls Try.prog 13 #[.agg (mgCells m (.slice A m.es.length cap))] x.w fun r w' => r = .returned (.int .i64 c) ∧ ∃ y : In (LyC w N m (.slice A m.es.length cap)), w' = y.w := by
        intro x
        refine (check_any m (.slice A m.es.length cap) x.w HF.out x.h.2.1).mono ?_
        rintro r w1 ⟨rfl, hb⟩
        exact ⟨by rw [hc], ⟨w1, x.h.step hb⟩, rfl⟩
      have h14 : ∀ x : In (LyC w N m (.slice A m.es.length cap)), Calls Try.prog 14 #[.agg (mgCells m (.slice A m.es.length cap))] x.w fun r w' => r = .returned (.int .i64 c) ∧ ∃ y : In (LyC w N m (.slice A m.es.length cap)), w' = y.w := by
        intro x
        refine (refCheck_any m (.slice A m.es.length cap) x.w HF.out x.h.2.1).mono ?_
        rintro r w1 ⟨rfl, hb⟩
        exact ⟨by rw [hc], ⟨w1, x.h.step hb⟩, rfl⟩
      have h15 : ∀ x : In (LyC w N m (.slice A m.es.length cap)), Calls Try.prog 15 #[] x.w fun r w' => r = .returned (.bool true) ∧ ∃ y : In (LyC w N m (.slice A m.es.length cap)), w' = y.w := by
        intro x
        refine (works_any x.w).mono ?_
        rintro r w1 ⟨rfl, hb⟩
        exact ⟨rfl, ⟨w1, x.h.step hb⟩, rfl⟩
      unfold mgCells at h13 h14
      have hcs : ∀ x : In (LyC w N m (.slice A m.es.length cap)), _ := fun x => mg_cells x.h.1
      have b0 := fun x : In (LyC w N m (.slice A m.es.length cap)) => (hcs x).1
      have b1 := fun x : In (LyC w N m (.slice A m.es.length cap)) => (hcs x).2.1
      have b2 := fun x : In (LyC w N m (.slice A m.es.length cap)) => (hcs x).2.2.1
      have b3 := fun x : In (LyC w N m (.slice A m.es.length cap)) => (hcs x).2.2.2.1
      have b4 := fun x : In (LyC w N m (.slice A m.es.length cap)) => (hcs x).2.2.2.2.1
      have b5 := fun x : In (LyC w N m (.slice A m.es.length cap)) => (hcs x).2.2.2.2.2.1
      have b6 := fun x : In (LyC w N m (.slice A m.es.length cap)) => (hcs x).2.2.2.2.2.2.1
      have b7 := fun x : In (LyC w N m (.slice A m.es.length cap)) => (hcs x).2.2.2.2.2.2.2.1
      have b8 := fun x : In (LyC w N m (.slice A m.es.length cap)) => (hcs x).2.2.2.2.2.2.2.2.1
      have b9 := fun x : In (LyC w N m (.slice A m.es.length cap)) => (hcs x).2.2.2.2.2.2.2.2.2.1
      have b10 := fun x : In (LyC w N m (.slice A m.es.length cap)) => (hcs x).2.2.2.2.2.2.2.2.2.2.1
      have b11 := fun x : In (LyC w N m (.slice A m.es.length cap)) => (hcs x).2.2.2.2.2.2.2.2.2.2.2.1
      have b12 := fun x : In (LyC w N m (.slice A m.es.length cap)) => (hcs x).2.2.2.2.2.2.2.2.2.2.2.2.1
      have b13 := fun x : In (LyC w N m (.slice A m.es.length cap)) => (hcs x).2.2.2.2.2.2.2.2.2.2.2.2.2
      have H13 := Lib.hid h13
      have H14 := Lib.hid h14
      have H15 := Lib.hid h15
      have HC : Hid (LyC w N m (.slice A m.es.length cap) wr.drew) := HL5.out.drew
      have hne : Nonempty (In (LyC w N m (.slice A m.es.length cap))) := ⟨⟨_, HC.out⟩⟩
      clear h13 h14 h15 hcs hc
      go_wp2_with fail
      refine wp_region_in (LyC w N m (.slice A m.es.length cap)) (by kernel_rfl) (by kernel_rfl) HC.out ?_
      repeat (any_goals (first | go_big_quiet_step (first | (go_at_call 13; exact H13.out _) | (go_at_call 14; exact H14.out _) | (go_at_call 15; exact H15.out _)) | quiet_step (first | (go_at_call 13; exact H13.out _) | (go_at_call 14; exact H14.out _) | (go_at_call 15; exact H15.out _))))
      refine wpQuiet_nil ?_
      intro x
      go_wp2_with fail
      go_ret
      exact ⟨rfl, x.h.2.2⟩
end Go.Proofs.Ytdemkcnhcgiheaa
