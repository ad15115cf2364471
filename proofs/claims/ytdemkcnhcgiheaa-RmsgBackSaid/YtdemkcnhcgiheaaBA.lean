/- The walk of RmsgBack. Conditions: the numbers are of 64 bits, the place of 16, the bits 32. -/
import Derived.Test.YtdemkcnhcgiheaaLA
import Derived.Test.YtdemkcnhcgiheaaBK
import Derived.Lib.ConvBytes
namespace Go.Proofs.Ytdemkcnhcgiheaa
open Go.RowKit
theorem bytes_cells (w : World) (S : Bs) : Lib.bytesCells w 5 (bs S) = u8s (S ++ List.replicate (grownCap w S.length 0 5 - S.length) 0) := by
  have e : ({ data := List.toArray S } : ByteArray).size = S.length := rfl
  simp [Lib.bytesCells, u8s, bs, e]
theorem bit_yes {b i : Nat} (h : ((b : Int) / 2 ^ i).tmod 2 = 1) : b.testBit i = true := by
  have e : (b : Int) / 2 ^ i = ((b / 2 ^ i : Nat) : Int) := by simp
  rw [e] at h
  rw [Nat.testBit_eq_decide_div_mod_eq]
  obtain ⟨x, hx⟩ : ∃ x, x = b / 2 ^ i := ⟨_, rfl⟩
  rw [← hx] at h ⊢
  rw [Int.tmod_eq_emod_of_nonneg (by omega)] at h
  exact decide_eq_true (by omega)
theorem bit_no {b i : Nat} (h : ¬ ((b : Int) / 2 ^ i).tmod 2 = 1) : b.testBit i = false := by
  have e : (b : Int) / 2 ^ i = ((b / 2 ^ i : Nat) : Int) := by simp
  rw [e] at h
  rw [Nat.testBit_eq_decide_div_mod_eq]
  obtain ⟨x, hx⟩ : ∃ x, x = b / 2 ^ i := ⟨_, rfl⟩
  rw [← hx] at h ⊢
  rw [Int.tmod_eq_emod_of_nonneg (by omega)] at h
  exact decide_eq_false (by omega)
theorem first_skip {b i : Nat} {Q : Prop} (h : ¬ ((b : Int) / 2 ^ i).tmod 2 = 1) : b.testBit i = false ∨ Q := .inl (bit_no h)
theorem bits_turn (c : UInt8) (r : Nat) (h : r < 8) : bits .xor .u8 (c.toNat : Int) (2 ^ r % 256) = ((turn c r).toNat : Int) := by
  have h2 : 2 ^ r < 2 ^ 8 := Nat.pow_lt_pow_right (by decide) h
  have e : ((2 : Int) ^ r % 256) = ((2 ^ r : Nat) : Int) := by
    have e1 : ((2 : Int) ^ r) = ((2 ^ r : Nat) : Int) := by simp
    rw [e1]
    generalize 2 ^ r = y at *
    omega
  rw [e, u8_xor_nat _ _ c.toNat_lt (by simpa using h2), turn_toNat c r h]
set_option maxRecDepth 100000 in
set_option maxHeartbeats 8000000 in
theorem back_any (m0 : Mg) (v0 : Value) (at_ b : Nat) (w : World) (hw : m0.wide) (ha : ArgEnts w v0 m0.es) (hat : at_ < 65536) (_hbb : b < 4294967296) :
    Calls Try.prog 5 #[.agg (mgCells m0 v0), .int .u16 (at_ : Int), .int .u32 (b : Int)] w fun e w' => e = .returned (.bool true) ∧ Below w.heap.size w w' := by
  have HF := Lib.hid (cutM_fit hw)
  have HS := Lib.hid (cutM_small hw)
  have HO := Lib.hid (cutM_ents hw)
  have HL := Lib.hid (cutM_len m0)
  have hblk := blk_new w (.cells (mgCells m0 v0) 27 (0, 0))
  have hbel : Below w.heap.size w (w.alloc (.cells (mgCells m0 v0) 27)) := (Below.refl _ w).alloc (Nat.le_refl _) _
  have ha1 : ArgEnts (w.alloc (.cells (mgCells m0 v0) 27)) v0 m0.es := by
    obtain ⟨A, cap, rfl, h⟩ := ha
    refine ⟨A, cap, rfl, fun k hk => ?_⟩
    obtain ⟨b, off, e0, hb, d0, d1, d2⟩ := h k hk
    exact ⟨b, off, e0, by rw [World.size_alloc]; omega, (hbel.cell (p := ⟨b, off + k * 3, none⟩) hb).trans d0, (hbel.cell (p := ⟨b, off + k * 3 + 1, none⟩) hb).trans d1, (hbel.cell (p := ⟨b, off + k * 3 + 2, none⟩) hb).trans d2⟩
  clear ha hw
  unfold mgCells at hbel ha1
  rw [show mgCells m0 v0 = #[.int .i64 m0.k, .int .i64 m0.f, .int .i64 m0.t, .int .u64 (m0.term : Int), .int .u64 (m0.ix : Int), .int .u64 (m0.lt : Int), .int .u64 (m0.cm : Int), v0, .bool m0.rj, .int .u64 (m0.hi : Int), .int .u64 (m0.cx : Int), .int .u64 (m0.si : Int), .int .u64 (m0.st : Int), .string (bs m0.sd)] from rfl] at hblk
  have HBLK := Lib.hid hblk
  have HBEL := Lib.hid hbel
  have HA1 := Lib.hid ha1
  clear hblk hbel ha1
  obtain ⟨A0, cap0, rfl, _⟩ : ∃ A cap, v0 = .slice A m0.es.length cap ∧ True := by
    obtain ⟨A, cap, h, _⟩ := HA1.out
    exact ⟨A, cap, h, trivial⟩
  unfold mgCells
  go_enter Try.func5, Try.ntmps5
  go_wp2_with fail
  generalize hW : World.alloc w _ = W0 at HBLK HBEL HA1 ⊢
  clear hW
  refine (cut_any m0 (.slice A0 m0.es.length cap0) W0 HA1.out).mono ?_
  rintro e w1 ⟨v, rfl, hv, hb1⟩
  obtain ⟨m, hm⟩ : ∃ m, m = cutM m0 := ⟨_, rfl⟩
  rw [← hm] at HF HS HO HL hv ⊢
  clear hm
  obtain ⟨A, cap, rfl⟩ := own_slice hv
  have M1 : w1.heap[w.heap.size]? = some (.cells (mgCells m0 (.slice A0 m0.es.length cap0)) 27 (0, 0)) := blk_below hb1 (blk_lt HBLK.out) HBLK.out
  obtain ⟨N, hN⟩ : ∃ N, N = w.heap.size := ⟨_, rfl⟩
  have B1 := Lib.hid (HBEL.out.trans (hb1.mono HBEL.out.size))
  have hNW := blk_lt HBLK.out
  rw [← hN] at M1 hNW ⊢
  have HNN := Lib.hid hN
  obtain ⟨c0, c1, c2, c3, c4, c5, c6, c7, c8, c9, c10, c11, c12, c13⟩ := mg_cells M1
  have fz := mg_frozen M1
  have f0 := fz 0
  have f1 := fz 1
  have f2 := fz 2
  have f3 := fz 3
  have f4 := fz 4
  have f5 := fz 5
  have f6 := fz 6
  have f7 := fz 7
  have f8 := fz 8
  have f9 := fz 9
  have f10 := fz 10
  have f11 := fz 11
  have f12 := fz 12
  have f13 := fz 13
  have HV := Lib.hid hv
  have HM1 := Lib.hid M1
  clear fz hb1 hv HBEL HA1 HBLK hN M1
  unfold mgCells
  go_wp2_with fail
  clear f0 f1 f2 f3 f4 f5 f6 f7 f8 f9 f10 f11 f12 f13 c0 c1 c2 c3 c4 c5 c6 c7 c8 c9 c10 c11 c12 c13
  have L2 : LyC w N m (.slice A m.es.length cap) ((((((((((((((w1.setCell ⟨N, 0, none⟩ (.int .i64 m.k)).setCell ⟨N, 1, none⟩ (.int .i64 m.f)).setCell ⟨N, 2, none⟩ (.int .i64 m.t)).setCell ⟨N, 3, none⟩ (.int .u64 (m.term : Int))).setCell ⟨N, 4, none⟩ (.int .u64 (m.ix : Int))).setCell ⟨N, 5, none⟩ (.int .u64 (m.lt : Int))).setCell ⟨N, 6, none⟩ (.int .u64 (m.cm : Int))).setCell ⟨N, 7, none⟩ (.slice A m.es.length cap)).setCell ⟨N, 8, none⟩ (.bool m.rj)).setCell ⟨N, 9, none⟩ (.int .u64 (m.hi : Int))).setCell ⟨N, 10, none⟩ (.int .u64 (m.cx : Int))).setCell ⟨N, 11, none⟩ (.int .u64 (m.si : Int))).setCell ⟨N, 12, none⟩ (.int .u64 (m.st : Int))).setCell ⟨N, 13, none⟩ (.string (bs m.sd))) := by
    have hNB : N < W0.heap.size := hNW
    refine ⟨blk_set14 HM1.out _ _ _ _ _ _ _ _ _ _ _ _ _ _, ?_, But.below (b := N) (((((((((((((((but_of_below B1.out N).set 0 _).set 1 _).set 2 _).set 3 _).set 4 _).set 5 _).set 6 _).set 7 _).set 8 _).set 9 _).set 10 _).set 11 _).set 12 _).set 13 _) (Nat.le_of_eq HNN.out.symm)⟩
    exact own_ents (own_set (own_set (own_set (own_set (own_set (own_set (own_set (own_set (own_set (own_set (own_set (own_set (own_set (own_set HV.out _ hNB _) _ hNB _) _ hNB _) _ hNB _) _ hNB _) _ hNB _) _ hNB _) _ hNB _) _ hNB _) _ hNB _) _ hNB _) _ hNB _) _ hNB _) _ hNB _)
  generalize hW : World.setCell _ ⟨N, 13, none⟩ _ = W2 at L2 ⊢
  clear hW HM1 HV B1 hNW
  have L2 := Lib.hid L2
  go_wp2_with fail
  go_loopw [7] (fun i W => ∃ k : Nat, k ≤ m.es.length ∧ i = .int .i64 k ∧ Hid (LyC w N m (.slice A m.es.length cap) W)) (fun i _ => m.es.length - (intOf i).toNat)
  case atStart => exact ⟨0, Nat.zero_le _, rfl, L2.out⟩
  case round =>
    obtain ⟨k, hk, rfl, HL5⟩ := hrel
    have hk70 : k ≤ 70 := Nat.le_trans hk HL.out
    have x7 : wr.cell? ⟨N, 7, none⟩ = some (.slice A m.es.length cap) := blk_cell HL5.out.1 7
    by_cases hlt : k < m.es.length
    · as_aux_lemma =>
      obtain ⟨ga, hA, hel⟩ := HL5.out.ent k hlt
      subst hA
      obtain ⟨e, he⟩ : ∃ e, e = m.es[k] := ⟨_, rfl⟩
      have hek : e.ok 200 := he ▸ HO.out _ (List.getElem_mem hlt)
      have HEK := Lib.hid (hek.more (b := 90000) (by decide))
      rw [← he] at hel
      have d0 := (hel ⟨wr, HL5.out⟩).1
      have d1 := (hel ⟨wr, HL5.out⟩).2.1
      have d2 := (hel ⟨wr, HL5.out⟩).2.2
      have HEL := Lib.hid hel
      clear hel he hek
      go_wp2_with fail
      refine (putEntry_any [] e wr HEK.out (by decide)).mono ?_
      rintro r w1 ⟨rfl, hb1⟩
      rw [List.nil_append]
      have L6 := Lib.hid (HL5.out.step hb1)
      clear hb1 d0 d1 d2 x7
      obtain ⟨T, hT⟩ : ∃ T, T = entB e := ⟨_, rfl⟩
      rw [← hT]
      have hTl : T.length ≤ 1000000 := by rw [hT]; have := entB_length HEK.out (by decide); omega
      have hTv : getV T = .tuple #[.agg #[.int .u64 (e.t : Int), .int .u64 (e.i : Int), .string (bs e.d)], .int .i64 0] := by rw [hT, getV, getE_entB e HEK.out]; rfl
      have HTL := Lib.hid hTl
      have HTV := Lib.hid hTv
      clear hT hTl hTv
      go_wp2_with fail
      refine (getEntry_any T w1 HTL.out).mono ?_
      rintro r w2 ⟨rfl, hb2⟩
      rw [HTV.out]
      have L7 := Lib.hid (L6.out.step hb2)
      clear hb2
      go_wp2_with fail
      have L8 := Lib.hid (L7.out.step ((Below.refl w2.heap.size w2).alloc (Nat.le_refl _) (.cells #[.int .u64 (e.t : Int), .int .u64 (e.i : Int), .string (bs e.d)] 34)))
      have hnew := blk_new w2 (.cells #[.int .u64 (e.t : Int), .int .u64 (e.i : Int), .string (bs e.d)] 34)
      obtain ⟨h, hh⟩ : ∃ h, h = w2.heap.size := ⟨_, rfl⟩
      rw [← hh] at hnew ⊢
      clear hh
      generalize hW : World.alloc w2 _ = W3 at hnew L8 ⊢
      clear hW
      have y0 : W3.cell? ⟨h, 0, none⟩ = some (.int .u64 (e.t : Int)) := blk_cell hnew 0
      have y1 : W3.cell? ⟨h, 1, none⟩ = some (.int .u64 (e.i : Int)) := blk_cell hnew 1
      have y2 : W3.cell? ⟨h, 2, none⟩ = some (.string (bs e.d)) := blk_cell hnew 2
      have x7 : W3.cell? ⟨N, 7, none⟩ = some (.slice (some ⟨ga, 0, none⟩) m.es.length cap) := blk_cell L8.out.1 7
      have d0 := (HEL.out ⟨W3, L8.out⟩).1
      have d1 := (HEL.out ⟨W3, L8.out⟩).2.1
      have d2 := (HEL.out ⟨W3, L8.out⟩).2.2
      clear hnew
      go_quiet (fail)
      go_wp2_with fail
      refine ⟨⟨k + 1, by omega, by go_num, ?_⟩, by simp [intOf]; omega⟩
      exact L8.out.step (below_drewN (Below.refl _ _) nq)
    · obtain rfl : k = m.es.length := by omega
      clear x7 hlt hk hk70
      obtain ⟨c0, c1, c2, c3, c4, c5, c6, c7, c8, c9, c10, c11, c12, c13⟩ := mg_cells HL5.out.1
      go_wp2_with fail
      clear c0 c1 c2 c3 c4 c5 c6 c7 c8 c9 c10 c11 c12 c13
      refine (encode_any m (.slice A m.es.length cap) wr HF.out (fun _ => HS.out) HL5.out.2.1).mono ?_
      rintro e w3 ⟨rfl, hb3⟩
      have L3 := Lib.hid (HL5.out.step hb3)
      clear hb3 HL5 L2
      obtain ⟨S, hS⟩ : ∃ S, S = encB m := ⟨_, rfl⟩
      have HSS := Lib.hid hS
      obtain ⟨q, hq⟩ : ∃ q, q = checkB m := ⟨_, rfl⟩
      have HQ := Lib.hid hq
      rw [← hS, show encE m = (if q = true then 0 else 2) by rw [hq]; rfl]
      clear hS hq
      obtain ⟨c0, c1, c2, c3, c4, c5, c6, c7, c8, c9, c10, c11, c12, c13⟩ := mg_cells L3.out.1
      cases q with
      | false =>
        go_wp2_with fail
        clear c0 c1 c2 c3 c4 c5 c6 c7 c8 c9 c10 c11 c12 c13
        refine (check_any m (.slice A m.es.length cap) w3 HF.out L3.out.2.1).mono ?_
        rintro e w4 ⟨rfl, hb4⟩
        have L4 := Lib.hid (L3.out.step hb4)
        clear hb4 L3
        rw [← HQ.out]
        have hS0 : S = [] := by rw [HSS.out, encB, ← HQ.out]; rfl
        subst hS0
        go_wp2_with fail
        refine (works_any w4).mono ?_
        rintro e w5 ⟨rfl, hb5⟩
        have L5 := Lib.hid (L4.out.step hb5)
        clear hb5
        go_wp2_with fail
        go_ret
        exact ⟨rfl, L5.out.2.2⟩
      | true =>
        have hck : checkB m = true := HQ.out.symm
        have hff := checkB_facts hck
        have hok := HF.out.ok HS.out hff.2.2.2
        have hlay := layB_length hok hff.1 hff.2.1 hff.2.2.1
        have hpar := parse_lay m HF.out hff.1 hff.2.1 hff.2.2.1 hff.2.2.2
        have hSe : S = seal_ (layB m) := by rw [HSS.out, encB, if_pos hck]
        have hSl : S.length = (layB m).length + 4 := by rw [hSe, seal_length]
        have hSo : open_ S = some (layB m) := by rw [hSe]; exact open_seal _
        have hSd : decB S = (m, 0) := by rw [HSS.out]; exact dec_enc HF.out hck
        have hSf : Fine S := ⟨by omega, fun t ho _ => by
          rw [hSo] at ho
          cases ho
          rw [hpar.1]; exact HS.out⟩
        have HSO := Lib.hid hSo
        have HSD := Lib.hid hSd
        have HSF := Lib.hid hSf
        have hn1 : 4 ≤ S.length := by omega
        have hn2 : S.length ≤ 500000 := by omega
        clear hck hff hok hlay hpar hSe hSl hSo hSd hSf HSS
        go_wp2_with fail
        clear c0 c1 c2 c3 c4 c5 c6 c7 c8 c9 c10 c11 c12 c13
        refine (check_any m (.slice A m.es.length cap) w3 HF.out L3.out.2.1).mono ?_
        rintro e w4 ⟨rfl, hb4⟩
        have L4 := Lib.hid (L3.out.step hb4)
        clear hb4 L3
        rw [← HQ.out]
        go_wp2_with fail
        refine (decode_any S w4 HSF.out).mono ?_
        rintro e w5 ⟨v, rfl, hv, hb5⟩
        rw [HSD.out] at hv ⊢
        obtain ⟨A2, cap2, rfl, -⟩ := hv.form2
        have L5 := Lib.hid (L4.out.step hb5)
        have HV := Lib.hid hv
        clear hb5 hv L4
        obtain ⟨c0, c1, c2, c3, c4, c5, c6, c7, c8, c9, c10, c11, c12, c13⟩ := mg_cells L5.out.1
        have hlt5 : N < w5.heap.size := blk_lt L5.out.1
        unfold mgCells
        go_wp2_with fail
        clear c0 c1 c2 c3 c4 c5 c6 c7 c8 c9 c10 c11 c12 c13 hlt5
        have hal := (Below.refl w5.heap.size w5).alloc (Nat.le_refl _) (.cells (mgCells m (.slice A2 m.es.length cap2)) 27 (0, 0))
        have L6 := L5.out.step hal
        have V6 := HV.out.below hal (Nat.le_refl _)
        clear hal L5 HV
        unfold mgCells at L6 V6
        generalize hW : World.alloc w5 _ = W6 at L6 V6 ⊢
        clear hW
        have L6 := Lib.hid L6
        refine (same_any m (.slice A2 m.es.length cap2) (.slice A m.es.length cap) W6 (by have := HL.out; omega) V6 L6.out.2.1).mono ?_
        rintro e w7 ⟨rfl, hb7⟩
        have L7 := Lib.hid (L6.out.step hb7)
        clear hb7 L6 V6
        have hconv := Lib.run_convert_string_bytes (P := Try.prog) w7 9 47 5 (bs S) Try.underlying9 Try.underlying47 Try.underlying5
        go_wp2_with fail
        obtain ⟨cap3, hcap3⟩ : ∃ c, c = grownCap w7 S.length 0 5 := ⟨_, rfl⟩
        have hbw : Below w7.heap.size w7 (Lib.bytesWorld w7 5 (bs S)) := ⟨rfl, rfl, rfl, by rw [Lib.bytesWorld_size]; omega, fun j hj => Lib.bytesWorld_at_old w7 5 (bs S) j hj⟩
        have hnew := Lib.bytesWorld_at_new w7 5 (bs S)
        rw [show Lib.bytesCells w7 5 (bs S) = u8s (S ++ List.replicate (grownCap w7 S.length 0 5 - S.length) 0) from bytes_cells w7 S, ← hcap3] at hnew
        rw [← hcap3]
        obtain ⟨P, hP⟩ : ∃ P : Bs, P = List.replicate (cap3 - S.length) 0 := ⟨_, rfl⟩
        obtain ⟨F, hF⟩ : ∃ F, F = (u8s (S ++ P)).size := ⟨_, rfl⟩
        have hF1 : S.length ≤ F := by rw [hF]; simp [u8s]
        rw [← hP, ← hF] at hnew
        obtain ⟨g, hg⟩ : ∃ g, g = w7.heap.size := ⟨_, rfl⟩
        rw [← hg] at hnew ⊢
        have HG := Lib.hid hg
        have HF1 := Lib.hid hF1
        obtain ⟨k0, hk0⟩ : ∃ k, k = at_ % (8 * S.length) := ⟨_, rfl⟩
        have HK0 := Lib.hid hk0
        have hk1 : k0 < 8 * S.length := by rw [hk0]; exact Nat.mod_lt _ (by omega)
        have hrem : Int.tmod (at_ : Int) (8 * (S.length : Int)) = (k0 : Int) := by
          rw [hk0, Int.tmod_eq_emod_of_nonneg (by omega)]
          simp
        clear hconv hcap3 hP hF hF1 hg hk0
        generalize hW : Lib.bytesWorld w7 5 (bs S) = W8 at hnew hbw ⊢
        clear hW
        have HNEW := Lib.hid hnew
        have HBW := Lib.hid hbw
        clear hnew hbw
        go_loopw [15, 16] (fun sv i W => ∃ (i0 : Nat) (B : Bs) (sm : Bool), i0 ≤ 32 ∧ i = .int .i64 i0 ∧ sv = .bool sm ∧ Hid (Turned S k0 b i0 B sm) ∧ Hid (W.heap[g]? = some (.cells (u8s (B ++ P)) 5 (F, F + 1))) ∧ Hid (Below w7.heap.size w7 W)) (fun _ i _ => 32 - (intOf i).toNat)
        case atStart => exact ⟨0, S, false, by decide, rfl, rfl, Turned.zero S k0 b, HNEW.out, HBW.out⟩
        case round =>
          obtain ⟨i0, B, sm, hi, rfl, rfl, HT, HB, HW⟩ := hrel
          by_cases hlt : i0 < 32
          · have hL0 : ¬ (8 * (S.length : Int) = 0) := by omega
            by_cases hbit : ((b : Int) / 2 ^ i0).tmod 2 = 1
            · by_cases hran : (k0 : Int) + (i0 : Int) < 8 * (S.length : Int)
              · as_aux_lemma =>
                go_wp2_with fail
                have hbt : b.testBit i0 = true := bit_yes hbit
                have hran2 : k0 + i0 < 8 * S.length := by omega
                obtain ⟨p, hp⟩ : ∃ p, p = k0 + i0 := ⟨_, rfl⟩
                have e1 : (k0 : Int) + (i0 : Int) = (p : Int) := by rw [hp]; rfl
                obtain ⟨Q, hQ⟩ : ∃ Q, Q = p / 8 := ⟨_, rfl⟩
                obtain ⟨r, hr⟩ : ∃ r, r = p % 8 := ⟨_, rfl⟩
                have e2 : Int.tdiv (p : Int) 8 = (Q : Int) := by rw [hQ, Int.tdiv_eq_ediv_of_nonneg (by omega)]; rfl
                have e3 : Int.tmod (p : Int) 8 = (r : Int) := by rw [hr, Int.tmod_eq_emod_of_nonneg (by omega)]; rfl
                have hQl : Q < S.length := by omega
                have hr8 : r < 8 := by omega
                have hBl := HT.out.len
                obtain ⟨c, hc⟩ : ∃ c, c = B.getD Q 0 := ⟨_, rfl⟩
                have hcell : wr.cell? ⟨g, Q, none⟩ = some (.int .u8 (c.toNat : Int)) := by
                  rw [blk_cell HB.out, u8s_get (B ++ P) Q c (by rw [hc, List.getElem?_append_left (by omega), List.getD, List.getElem?_eq_getElem (by omega)]; rfl)]
                have hfz : wr.frozen? ⟨g, Q, none⟩ = false := by
                  simp only [World.frozen?, HB.out]
                  have := HF1.out
                  simp
                  omega
                have HTN := Lib.hid hbt
                have HRA := Lib.hid hran2
                have HP := Lib.hid hp
                have HQQ := Lib.hid hQ
                have HRR := Lib.hid hr
                have HCC := Lib.hid hc
                rw [e1]
                clear hbt hran2 hp hQ hr hc hbit hran e1
                go_region
                go_wp2_with fail
                refine ⟨⟨i0 + 1, B.set Q (turn c r), true, by omega, by go_num, rfl, ?_, ?_, ?_⟩, by simp [intOf]; omega⟩
                · have := HT.out.turn HTN.out HRA.out
                  rw [← HP.out, ← HQQ.out, ← HRR.out, ← HCC.out] at this
                  exact this
                · rw [bits_turn c r hr8]
                  have := blk_set HB.out Q (.int .u8 ((turn c r).toNat : Int))
                  rw [u8s_set _ _ _ (by omega) (by have := (turn c r).toNat_lt; omega)] at this
                  rw [show (B ++ P).set Q (UInt8.ofNat ((turn c r).toNat : Int).toNat) = B.set Q (turn c r) ++ P by rw [List.set_append_left _ _ (by omega)]; simp] at this
                  exact this
                · exact (HW.out.setCell (p := ⟨g, Q, none⟩) (Nat.le_of_eq HG.out.symm) _).drew
              · as_aux_lemma =>
                go_wp2_with fail
                refine ⟨⟨i0 + 1, B, sm, by omega, by go_num, rfl, ?_, HB.out, HW.out⟩, by simp [intOf]; omega⟩
                exact HT.out.skip (.inr (by omega))
            · as_aux_lemma =>
              go_wp2_with fail
              refine ⟨⟨i0 + 1, B, sm, by omega, by go_num, rfl, ?_, HB.out, HW.out⟩, by simp [intOf]; omega⟩
              exact HT.out.skip (.inl (bit_no hbit))
          · obtain rfl : i0 = 32 := by omega
            rw [show (((32 : Nat)) : Int) = 32 from rfl]
            have LW := Lib.hid (L7.out.step HW.out)
            have hBl := HT.out.len
            have hcv : (convert 47 9 (.slice (some ⟨g, 0, none⟩) S.length cap3)).run Try.prog wr = .ok (.string (bs B)) wr := by
              have := conv_bytes wr g (B ++ P) 5 (F, F + 1) HB.out 0 S.length cap3 (by rw [List.length_append]; omega)
              rw [List.drop_zero, ← hBl, List.take_left'] at this
              · rw [← hBl]; exact this
              · rfl
            cases sm with
            | true =>
              as_aux_lemma =>
              have hob := HT.out.seal_ HSO.out
              have hfb : Fine B := ⟨by omega, fun t ho _ => by rw [hob] at ho; cases ho⟩
              have hdb : decB B = (zeroM, 8) := by unfold decB; rw [hob]
              clear hob
              go_wp2_with fail
              refine (decode_any B wr hfb).mono ?_
              rintro e w9 ⟨v, rfl, hv, hb9⟩
              rw [hdb] at hv ⊢
              obtain ⟨A3, cap4, rfl, -⟩ := hv.form2
              have B9 := Lib.hid ((LW.out.step hb9).step ((Below.refl w9.heap.size w9).alloc (Nat.le_refl _) (.cells (mgCells zeroM (.slice A3 zeroM.es.length cap4)) 27 (0, 0))))
              clear hv hb9 hdb hfb
              unfold mgCells at B9 ⊢
              go_wp2_with fail
              generalize hW : World.alloc w9 _ = W9 at B9 ⊢
              clear hW
              refine (works_any W9).mono ?_
              rintro e w10 ⟨rfl, hb10⟩
              have B10 := Lib.hid (B9.out.step hb10)
              clear hb10
              go_wp2_with fail
              go_ret
              exact ⟨rfl, B10.out.2.2⟩
            | false =>
              as_aux_lemma =>
              obtain rfl : B = S := HT.out.no rfl
              have hfb := HSF.out
              have hdb := HSD.out
              go_wp2_with fail
              refine (decode_any B wr hfb).mono ?_
              rintro e w9 ⟨v, rfl, hv, hb9⟩
              rw [hdb] at hv ⊢
              obtain ⟨A3, cap4, rfl, -⟩ := hv.form2
              have B9 := Lib.hid ((LW.out.step hb9).step ((Below.refl w9.heap.size w9).alloc (Nat.le_refl _) (.cells (mgCells m (.slice A3 m.es.length cap4)) 27 (0, 0))))
              clear hv hb9 hdb hfb
              unfold mgCells at B9 ⊢
              go_wp2_with fail
              generalize hW : World.alloc w9 _ = W9 at B9 ⊢
              clear hW
              refine (works_any W9).mono ?_
              rintro e w10 ⟨rfl, hb10⟩
              have B10 := Lib.hid (B9.out.step hb10)
              clear hb10
              go_wp2_with fail
              go_ret
              exact ⟨rfl, B10.out.2.2⟩
end Go.Proofs.Ytdemkcnhcgiheaa
