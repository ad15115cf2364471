/- The walks of what Check asks: Check$1, Check$2, slices.Max, rises. -/
import Derived.Test.YtdemkcnhcgiheaaP
namespace Go.Proofs.Ytdemkcnhcgiheaa
open Go.RowKit
theorem ret_bool {b r : Bool} (h : b = r) : Ending.returned (.bool b) = .returned (.bool r) := by rw [h]
set_option maxRecDepth 100000 in
set_option maxHeartbeats 1600000 in
theorem check1_any (k f t : Int) (g : Nat) (w : World) (h0 : w.cell? ⟨g, 0, none⟩ = some (.int .i64 k)) (h1 : w.cell? ⟨g, 1, none⟩ = some (.int .i64 f)) (h2 : w.cell? ⟨g, 2, none⟩ = some (.int .i64 t)) :
    Calls Try.prog 31 #[.pointer (some ⟨g, 0, none⟩)] w fun e w' => e = .returned (.bool (decide (1 ≤ k ∧ k ≤ 7 ∧ 0 ≤ f ∧ f ≤ 6 ∧ 0 ≤ t ∧ t ≤ 6 ∧ f ≠ t))) ∧ w' = w := by
  obtain ⟨r, hr⟩ : ∃ r, r = decide (1 ≤ k ∧ k ≤ 7 ∧ 0 ≤ f ∧ f ≤ 6 ∧ 0 ≤ t ∧ t ≤ 6 ∧ f ≠ t) := ⟨_, rfl⟩
  rw [← hr]
  have HR := Lib.hid hr
  clear hr
  go_enter Try.func31, Try.ntmps31
  go_wp2_with fail
  all_goals
    go_ret
    refine ⟨ret_bool ?_, rfl⟩
    rw [HR.out]
    symm
    first
      | exact decide_eq_false (by omega)
      | (rw [Bool.eq_iff_iff]; simp only [decide_eq_true_eq, bne_iff_ne]; omega)
set_option maxRecDepth 100000 in
set_option maxHeartbeats 1600000 in
theorem max_any (l : List Nat) (b : Nat) (w : World) (hb : w.heap[b]? = some (.cells (u64s l) 22 (0, 0))) (hl : 0 < l.length) (hl8 : l.length ≤ 8) :
    Calls Try.prog 33 #[.slice (some ⟨b, 0, none⟩) l.length l.length] w fun e w' => (∃ M : Nat, e = .returned (.int .u64 M) ∧ (∀ c, M ≤ c ↔ ∀ n ∈ l, n ≤ c)) ∧ w' = w := by
  have hc0 : w.cell? ⟨b, 0, none⟩ = some (.int .u64 ((l[0] : Nat) : Int)) := by rw [blk_cell hb, u64s_get _ _ hl]
  have HB := Lib.hid hb
  have hm1 := max_of_two
  have hm2 := max2_ints
  clear hb
  go_enter Try.func33, Try.ntmps33
  go_wp2_with fail
  go_loopw [3, 4] (fun v i W => ∃ (k M : Nat), 1 ≤ k ∧ k ≤ l.length ∧ i = .int .i64 k ∧ v = .int .u64 M ∧ Hid (∀ c, M ≤ c ↔ ∀ n ∈ l.take k, n ≤ c) ∧ W = w) (fun _ i _ => l.length - (intOf i).toNat)
  case atStart => exact ⟨1, l[0], by omega, by omega, rfl, rfl, by intro c; rw [List.take_succ_eq_append_getElem hl]; simp, rfl⟩
  case round =>
    obtain ⟨k, M, hk1, hk, rfl, rfl, hM, rfl⟩ := hrel
    by_cases hlt : k < l.length
    · have hc : wr.cell? ⟨b, k, none⟩ = some (.int .u64 ((l[k] : Nat) : Int)) := by rw [blk_cell HB.out, u64s_get _ _ hlt]
      obtain ⟨x, hx⟩ : ∃ x : Nat, x = l[k] := ⟨_, rfl⟩
      rw [← hx] at hc
      have HX := Lib.hid hx
      clear hx
      by_cases hgt : (M : Int) < (x : Int)
      · go_wp2_with fail
        refine ⟨⟨k + 1, x, by omega, by omega, by go_num, rfl, ?_, trivial⟩, by simp [intOf]; omega⟩
        intro c
        rw [List.take_succ_eq_append_getElem hlt, ← HX.out]
        have h1 := hM.out c
        simp only [List.mem_append, List.mem_singleton]
        constructor
        · intro h n hn
          rcases hn with hn | rfl
          · exact h1.1 (by omega) n hn
          · exact h
        · intro h; exact h x (.inr rfl)
      · go_wp2_with fail
        refine ⟨⟨k + 1, M, by omega, by omega, by go_num, rfl, ?_, trivial⟩, by simp [intOf]; omega⟩
        intro c
        rw [List.take_succ_eq_append_getElem hlt, ← HX.out]
        have h1 := hM.out c
        simp only [List.mem_append, List.mem_singleton]
        constructor
        · intro h n hn
          rcases hn with hn | rfl
          · exact h1.1 h n hn
          · omega
        · intro h; exact h1.2 (fun n hn => h n (.inl hn))
    · obtain rfl : k = l.length := by omega
      rw [List.take_length] at hM
      go_wp2_with fail
      go_ret
      exact ⟨⟨M, rfl, hM.out⟩, rfl⟩

set_option maxRecDepth 100000 in
set_option maxHeartbeats 1600000 in
theorem check2_any (term ix lt cm hi cx : Nat) (g : Nat) (w : World) (h3 : w.cell? ⟨g, 3, none⟩ = some (.int .u64 (term : Int))) (h4 : w.cell? ⟨g, 4, none⟩ = some (.int .u64 (ix : Int))) (h5 : w.cell? ⟨g, 5, none⟩ = some (.int .u64 (lt : Int))) (h6 : w.cell? ⟨g, 6, none⟩ = some (.int .u64 (cm : Int))) (h9 : w.cell? ⟨g, 9, none⟩ = some (.int .u64 (hi : Int))) (h10 : w.cell? ⟨g, 10, none⟩ = some (.int .u64 (cx : Int))) :
    Calls Try.prog 32 #[.pointer (some ⟨g, 0, none⟩)] w fun e w' => e = .returned (.bool (decide (1 ≤ term ∧ term ≤ 1099511627776 ∧ ix ≤ 1099511627776 ∧ lt ≤ 1099511627776 ∧ cm ≤ 1099511627776 ∧ hi ≤ 1099511627776 ∧ cx ≤ 1099511627776))) ∧ Below w.heap.size w w' := by
  obtain ⟨r, hr⟩ : ∃ r, r = decide (1 ≤ term ∧ term ≤ 1099511627776 ∧ ix ≤ 1099511627776 ∧ lt ≤ 1099511627776 ∧ cm ≤ 1099511627776 ∧ hi ≤ 1099511627776 ∧ cx ≤ 1099511627776) := ⟨_, rfl⟩
  rw [← hr]
  have HR := Lib.hid hr
  clear hr
  by_cases h1 : 1 ≤ (term : Int)
  · go_enter Try.func32, Try.ntmps32
    go_wp2_with fail
    refine (max_any [term, ix, lt, cm, hi, cx] w.heap.size _ (blk_new w _) (by simp) (by simp)).mono ?_
    rintro e w1 ⟨⟨M, rfl, hM⟩, rfl⟩
    have hM2 := hM 1099511627776
    simp only [List.mem_cons, List.not_mem_nil, or_false, forall_eq_or_imp, forall_eq] at hM2
    have HM := Lib.hid hM2
    clear hM hM2
    go_wp2_with fail
    go_ret
    refine ⟨ret_bool ?_, (Below.refl _ _).alloc (Nat.le_refl _) _⟩
    rw [HR.out, Bool.eq_iff_iff]
    have := HM.out
    simp only [decide_eq_true_eq]
    omega
  · go_enter Try.func32, Try.ntmps32
    go_wp2_with fail
    go_ret
    refine ⟨ret_bool ?_, Below.refl _ _⟩
    rw [HR.out]
    symm
    exact decide_eq_false (by omega)
/-- entries follow one another: i are gone, the last of them of term p -/
def riseB (ix term : Nat) : Nat → Nat → List Ent → Bool
  | _, _, [] => true
  | i, p, e :: es => decide (e.i = ix + i + 1 ∧ p ≤ e.t ∧ e.t ≤ term ∧ e.d.length ≤ 20000) && riseB ix term (i + 1) e.t es
theorem riseB_yes {ix term i p : Nat} {es : List Ent} (h : i < es.length) (h1 : es[i].i = ix + i + 1 ∧ p ≤ es[i].t ∧ es[i].t ≤ term ∧ es[i].d.length ≤ 20000) : riseB ix term i p (es.drop i) = riseB ix term (i + 1) es[i].t (es.drop (i + 1)) := by
  rw [List.drop_eq_getElem_cons h, riseB, decide_eq_true h1, Bool.true_and]
theorem riseB_no {ix term i p : Nat} {es : List Ent} (h : i < es.length) (h1 : ¬ (es[i].i = ix + i + 1 ∧ p ≤ es[i].t ∧ es[i].t ≤ term ∧ es[i].d.length ≤ 20000)) : riseB ix term i p (es.drop i) = false := by
  rw [List.drop_eq_getElem_cons h, riseB, decide_eq_false h1, Bool.false_and]
/-- a message whose numbers are of 64 bits, not too long to be walked -/
structure Mg.fit (m : Mg) : Prop where
  term : m.term < 18446744073709551616
  ix : m.ix < 18446744073709551616
  lt : m.lt < 18446744073709551616
  cm : m.cm < 18446744073709551616
  hi : m.hi < 18446744073709551616
  cx : m.cx < 18446744073709551616
  si : m.si < 18446744073709551616
  st : m.st < 18446744073709551616
  es : ∀ e ∈ m.es, e.ok 1000000
  len : m.es.length ≤ 1000000
  sd : m.sd.length ≤ 1000000
set_option maxRecDepth 100000 in
set_option maxHeartbeats 1600000 in
theorem rises_any (m : Mg) (v : Value) (w : World) (hm : m.fit) (hix : m.ix ≤ 1099511627776) (hv : EntsAt w v m.es) :
    Calls Try.prog 35 #[.agg (mgCells m v)] w fun e w' => e = .returned (.bool (riseB m.ix m.term 0 1 m.es)) ∧ Below w.heap.size w w' := by
  obtain ⟨k0, f, t, term, ix, lt, cm, es, rj, hi, cx, si, st, sd⟩ := m
  obtain ⟨A, cap, rfl, hcap, hcells⟩ := hv.form2
  obtain ⟨b1, b2, b3, b4, b5, b6, b7, b8, b9, b10, b11⟩ := hm
  dsimp only at *
  have hlen : (es.length : Int) ≤ 1000000 := by omega
  obtain ⟨r, hr⟩ : ∃ r, r = riseB ix term 0 1 es := ⟨_, rfl⟩
  rw [← hr]
  have HR := Lib.hid hr
  have HC := Lib.hid hcells
  have HE := Lib.hid b9
  clear hr hcells hv b9 b2 b3 b4 b5 b6 b7 b8
  unfold mgCells
  go_enter Try.func35, Try.ntmps35
  go_wp2_with fail
  obtain ⟨W0, hW0⟩ : ∃ W0 : World, W0 = w.alloc (.cells #[.int .i64 k0, .int .i64 f, .int .i64 t, .int .u64 (term : Int), .int .u64 (ix : Int), .int .u64 (lt : Int), .int .u64 (cm : Int), .slice A es.length cap, .bool rj, .int .u64 (hi : Int), .int .u64 (cx : Int), .int .u64 (si : Int), .int .u64 (st : Int), .string (bs sd)] 27) := ⟨_, rfl⟩
  rw [← hW0]
  have hmb : W0.heap[w.heap.size]? = some (.cells #[.int .i64 k0, .int .i64 f, .int .i64 t, .int .u64 (term : Int), .int .u64 (ix : Int), .int .u64 (lt : Int), .int .u64 (cm : Int), .slice A es.length cap, .bool rj, .int .u64 (hi : Int), .int .u64 (cx : Int), .int .u64 (si : Int), .int .u64 (st : Int), .string (bs sd)] 27 (0, 0)) := by rw [hW0]; exact blk_new w _
  have hB0 : Below w.heap.size w W0 := by rw [hW0]; exact (Below.refl _ w).alloc (Nat.le_refl _) _
  have C3 := Lib.hid (show W0.cell? ⟨w.heap.size, 3, none⟩ = some (.int .u64 (term : Int)) from blk_cell hmb 3)
  have C4 := Lib.hid (show W0.cell? ⟨w.heap.size, 4, none⟩ = some (.int .u64 (ix : Int)) from blk_cell hmb 4)
  have HL := Lib.hid (blk_lt hmb)
  have HB0 := Lib.hid hB0
  clear hmb hB0 hW0
  go_loopw [3, 9] (fun v i W => ∃ (k p : Nat), k ≤ es.length ∧ i = .int .i64 k ∧ v = .int .u64 p ∧ Hid (r = riseB ix term k p (es.drop k)) ∧ Hid (Below W0.heap.size W0 W)) (fun _ i _ => es.length - (intOf i).toNat)
  case atStart => exact ⟨0, 1, by omega, rfl, rfl, HR.out, Below.refl _ _⟩
  case round =>
    obtain ⟨k, p, hk, rfl, rfl, hR, hB⟩ := hrel
    have c3 := (hB.out.cell (p := ⟨w.heap.size, 3, none⟩) HL.out).trans C3.out
    have c4 := (hB.out.cell (p := ⟨w.heap.size, 4, none⟩) HL.out).trans C4.out
    by_cases hlt : k < es.length
    · obtain ⟨g, rfl, hg, e0, e1, e2⟩ := HC.out k hlt
      have hg0 := Nat.lt_of_lt_of_le hg HB0.out.size
      obtain ⟨et, het⟩ : ∃ x, x = es[k].t := ⟨_, rfl⟩
      obtain ⟨ei, hei⟩ : ∃ x, x = es[k].i := ⟨_, rfl⟩
      obtain ⟨ed, hed⟩ : ∃ x, x = es[k].d := ⟨_, rfl⟩
      have d0 : wr.cell? ⟨g, k * 3, none⟩ = some (.int .u64 (et : Int)) := by rw [hB.out.cell (p := ⟨g, k * 3, none⟩) hg0, HB0.out.cell (p := ⟨g, k * 3, none⟩) hg, het]; exact e0
      have d1 : wr.cell? ⟨g, k * 3 + 1, none⟩ = some (.int .u64 (ei : Int)) := by rw [hB.out.cell (p := ⟨g, k * 3 + 1, none⟩) hg0, HB0.out.cell (p := ⟨g, k * 3 + 1, none⟩) hg, hei]; exact e1
      have d2 : wr.cell? ⟨g, k * 3 + 2, none⟩ = some (.string (bs ed)) := by rw [hB.out.cell (p := ⟨g, k * 3 + 2, none⟩) hg0, HB0.out.cell (p := ⟨g, k * 3 + 2, none⟩) hg, hed]; exact e2
      have hek := HE.out es[k] (List.getElem_mem hlt)
      have q1 := hek.t
      have q2 := hek.i
      have q3 := hek.d
      have HY := Lib.hid (@riseB_yes ix term k p es hlt)
      have HN := Lib.hid (@riseB_no ix term k p es hlt)
      rw [← het, ← hei, ← hed] at HY HN
      rw [← het] at q1
      rw [← hei] at q2
      rw [← hed] at q3
      have hsz := Nat.lt_of_lt_of_le HL.out hB.out.size
      clear e0 e1 e2 hek het hei hed
      go_wp2_with fail
      all_goals first
        | (refine ⟨⟨k + 1, et, by omega, by go_num, rfl, ?_, ?_⟩, by simp [intOf]; omega⟩
           · exact hR.out.trans (HY.out (by omega))
           · exact hB.out.alloc hB.out.size _)
        | (go_ret
           refine ⟨ret_bool ?_, (HB0.out.trans (hB.out.mono HB0.out.size)).alloc (by omega) _⟩
           rw [hR.out]
           exact (HN.out (by omega)).symm)
    · obtain rfl : k = es.length := by omega
      rw [List.drop_length] at hR
      go_wp2_with fail
      go_ret
      exact ⟨ret_bool hR.out.symm, HB0.out.trans (hB.out.mono HB0.out.size)⟩
end Go.Proofs.Ytdemkcnhcgiheaa
