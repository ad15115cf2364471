/- The walk of RmsgOne. No condition. -/
import Derived.Test.YtdemkcnhcgiheaaSA
namespace Go.Proofs.Ytdemkcnhcgiheaa
open Go.RowKit
theorem riseB_all {ix term : Nat} : ∀ (es : List Ent) (i p : Nat), riseB ix term i p es = true → ∀ k (h : k < es.length), es[k].i = ix + (i + k) + 1 ∧ es[k].t ≤ term := by
  intro es
  induction es with
  | nil => intro i p _ k h; exact absurd h (Nat.not_lt_zero _)
  | cons e es ih =>
    intro i p hr k h
    simp only [riseB, Bool.and_eq_true, decide_eq_true_eq] at hr
    cases k with
    | zero => exact ⟨hr.1.1, hr.1.2.2.1⟩
    | succ k =>
      have := ih (i + 1) e.t hr.2 k (by simpa using h)
      simp only [List.getElem_cons_succ]
      exact ⟨by rw [this.1]; omega, this.2⟩
theorem checkB_rise {m : Mg} (h : checkB m = true) : ∀ k (hk : k < m.es.length), m.es[k].i = m.ix + k + 1 ∧ m.es[k].t ≤ m.term := by
  have h3 : riseB m.ix m.term 0 1 m.es = true := by
    simp only [checkB, chk3, Bool.and_eq_true] at h
    exact h.2.2.1.2
  intro k hk
  have := riseB_all m.es 0 1 h3 k hk
  rwa [Nat.zero_add] at this
theorem checkB_ix {m : Mg} (h : checkB m = true) : m.ix ≤ 1099511627776 := by
  simp only [checkB, Bool.and_eq_true] at h
  exact chk2_ix h.2.1
set_option maxRecDepth 100000 in
set_option maxHeartbeats 4000000 in
theorem one_any (l : Bs) (w : World) :
    Calls Try.prog 6 #[.string (bs l)] w fun e w' => e = .returned (.bool true) ∧ Below w.heap.size w w' := by
  obtain ⟨q, hq⟩ : ∃ q : Nat, q = min l.length 3000 := ⟨_, rfl⟩
  have hmin : ∀ W, (Builtin.min_ #[3, 3] 3 #[.int .i64 (l.length : Nat), .int .i64 3000]).run Try.prog W = .ok (.int .i64 (q : Nat)) W := by
    intro W
    have e : (if (3000 : Int) < (l.length : Nat) then (3000 : Int) else (l.length : Nat)) = (q : Int) := by split <;> omega
    simp [Builtin.min_, Builtin.min2, e]
  have hq1 : q ≤ l.length := by omega
  have hq2 : q ≤ 3000 := by omega
  clear hq
  go_enter Try.func6, Try.ntmps6
  go_wp2_with fail
  obtain ⟨T, hT⟩ : ∃ T, T = l.take q := ⟨_, rfl⟩
  have hTl : T.length ≤ 3000 := by rw [hT, List.length_take]; omega
  rw [← hT]
  clear hmin hq1 hq2 hT
  refine (sealed_any T w (by omega)).mono ?_
  rintro e w1 ⟨rfl, hb1⟩
  have hSl : (seal_ T).length ≤ 3004 := by rw [seal_length]; omega
  have hSo : open_ (seal_ T) = some T := open_seal T
  obtain ⟨S, hS⟩ : ∃ S, S = seal_ T := ⟨_, rfl⟩
  rw [← hS] at hSl hSo ⊢
  clear hS
  have B1 := Lib.hid hb1
  clear hb1
  cases hg : good T with
  | false =>
    have hd := dec_bad hSo hg
    have HD := Lib.hid hd
    clear hd hg hSo
    go_wp2_with fail
    refine (decode_any S w1 (fine_short hSl)).mono ?_
    rintro e w2 ⟨v, rfl, hv, hb2⟩
    rw [HD.out] at hv ⊢
    obtain ⟨A, cap, rfl, -⟩ := hv.form2
    have B2 := Lib.hid (B1.out.trans (hb2.mono B1.out.size))
    have V2 := Lib.hid hv
    clear hv hb2
    unfold mgCells
    go_wp2_with fail
    have hal := (Below.refl w2.heap.size w2).alloc (Nat.le_refl _) (.cells (mgCells zeroM (.slice A zeroM.es.length cap)) 27 (0, 0))
    have V2b := Lib.hid (V2.out.below hal (Nat.le_refl _))
    have B2b := Lib.hid (B2.out.trans (hal.mono B2.out.size))
    clear hal V2 B2
    refine (same_any zeroM (.slice A zeroM.es.length cap) (.slice none 0 0) _ (by decide) V2b.out (EntsAt.nil _)).mono ?_
    rintro e w6 ⟨rfl, hb6⟩
    have B6 := Lib.hid (B2b.out.trans (hb6.mono B2b.out.size))
    clear hb6
    go_wp2_with fail
    refine (works_any w6).mono ?_
    rintro e w7 ⟨rfl, hb7⟩
    have B7 := Lib.hid (B6.out.trans (hb7.mono B6.out.size))
    clear hb7
    go_wp2_with fail
    go_ret
    exact ⟨rfl, B7.out⟩
  | true =>
    have hd := dec_good hSo hg
    have hTs : T.length ≤ 1000000 := by omega
    obtain ⟨m, hm⟩ : ∃ m, m = parse T := ⟨_, rfl⟩
    have hfit : m.fit := hm ▸ parse_fit T hTs
    have hsm : m.small := hm ▸ parse_small T hTl
    rw [← hm] at hd
    obtain ⟨hck, henc⟩ := dec_some hd
    have hE : encE m = 0 := if_pos hck
    have hris := checkB_rise hck
    have hix := checkB_ix hck
    have hlen := (checkB_facts hck).2.2.2
    have HD := Lib.hid hd
    have HF := Lib.hid hfit
    have HSM := Lib.hid hsm
    have HEN := Lib.hid henc
    have HE := Lib.hid hE
    have HRI := Lib.hid hris
    clear hd hfit hsm henc hE hris hck hm hg hSo
    go_wp2_with fail
    refine (decode_any S w1 (fine_short hSl)).mono ?_
    rintro e w2 ⟨v, rfl, hv, hb2⟩
    rw [HD.out] at hv ⊢
    obtain ⟨A, cap, rfl, hcap, hcells⟩ := hv.form2
    have B2 := Lib.hid (B1.out.trans (hb2.mono B1.out.size))
    have V2 := Lib.hid hv
    clear hv hb2
    unfold mgCells
    go_wp2_with fail
    have hal := (Below.refl w2.heap.size w2).alloc (Nat.le_refl _) (.cells (mgCells m (.slice A m.es.length cap)) 27 (0, 0))
    have hblk := blk_new w2 (.cells (mgCells m (.slice A m.es.length cap)) 27 (0, 0))
    have hcells2 : ∀ k (_ : k < m.es.length), ∃ g, A = some ⟨g, 0, none⟩ ∧ g < w2.heap.size ∧ (w2.alloc (.cells (mgCells m (.slice A m.es.length cap)) 27)).cell? ⟨g, k * 3, none⟩ = some (.int .u64 (m.es[k].t : Int)) ∧ (w2.alloc (.cells (mgCells m (.slice A m.es.length cap)) 27)).cell? ⟨g, k * 3 + 1, none⟩ = some (.int .u64 (m.es[k].i : Int)) := by
      intro k hk
      obtain ⟨g, e0, e1, e2, e3, e4⟩ := hcells k hk
      exact ⟨g, e0, e1, (hal.cell (p := ⟨g, k * 3, none⟩) e1).trans e2, (hal.cell (p := ⟨g, k * 3 + 1, none⟩) e1).trans e3⟩
    have hg2 : w2.heap.size < (w2.alloc (.cells (mgCells m (.slice A m.es.length cap)) 27)).heap.size := by rw [World.size_alloc]; omega
    have V2b := Lib.hid (V2.out.below hal (Nat.le_refl _))
    have B2b := Lib.hid (B2.out.trans (hal.mono B2.out.size))
    clear hal V2 B2 hcells
    unfold mgCells at hblk hcells2 hg2 V2b B2b
    obtain ⟨g, hgg⟩ : ∃ g, g = w2.heap.size := ⟨_, rfl⟩
    rw [← hgg] at hblk hcells2 hg2 ⊢
    clear hgg
    generalize hW : World.alloc w2 _ = W at hblk hcells2 hg2 V2b B2b ⊢
    clear hW w2
    have HBLK := Lib.hid hblk
    have HC2 := Lib.hid hcells2
    clear hcells2 hblk
    refine (encode_any m (.slice A m.es.length cap) W HF.out (fun _ => HSM.out) V2b.out).mono ?_
    rintro e w3 ⟨rfl, hb3⟩
    rw [HEN.out, HE.out]
    have B3 := Lib.hid (B2b.out.trans (hb3.mono B2b.out.size))
    have M3 := Lib.hid (blk_below hb3 hg2 HBLK.out)
    have C3 := Lib.hid (show ∀ k (_ : k < m.es.length), ∃ g, A = some ⟨g, 0, none⟩ ∧ g < w3.heap.size ∧ w3.cell? ⟨g, k * 3, none⟩ = some (.int .u64 (m.es[k].t : Int)) ∧ w3.cell? ⟨g, k * 3 + 1, none⟩ = some (.int .u64 (m.es[k].i : Int)) from fun k hk => by
      obtain ⟨x, e0, e1, e2, e3⟩ := HC2.out k hk
      have e1 : x < W.heap.size := Nat.lt_trans e1 hg2
      exact ⟨x, e0, Nat.lt_of_lt_of_le e1 hb3.size, (hb3.cell (p := ⟨x, k * 3, none⟩) e1).trans e2, (hb3.cell (p := ⟨x, k * 3 + 1, none⟩) e1).trans e3⟩)
    clear hb3 HBLK HC2 V2b B2b hg2
    go_wp2_with fail
    go_loopw [7] (fun i W => ∃ k : Nat, k ≤ m.es.length ∧ i = .int .i64 k ∧ Hid (Below w3.heap.size w3 W)) (fun i _ => m.es.length - (intOf i).toNat)
    case atStart => exact ⟨0, by omega, rfl, Below.refl _ _⟩
    case round =>
      obtain ⟨k, hk, rfl, hB⟩ := hrel
      have c7 : wr.cell? ⟨g, 7, none⟩ = some (.slice A m.es.length cap) := (hB.out.cell (p := ⟨g, 7, none⟩) (blk_lt M3.out)).trans (blk_cell M3.out 7)
      by_cases hlt : k < m.es.length
      · have c3 : wr.cell? ⟨g, 3, none⟩ = some (.int .u64 (m.term : Int)) := (hB.out.cell (p := ⟨g, 3, none⟩) (blk_lt M3.out)).trans (blk_cell M3.out 3)
        have c4 : wr.cell? ⟨g, 4, none⟩ = some (.int .u64 (m.ix : Int)) := (hB.out.cell (p := ⟨g, 4, none⟩) (blk_lt M3.out)).trans (blk_cell M3.out 4)
        obtain ⟨ga, rfl, hga, d0, d1⟩ := C3.out k hlt
        obtain ⟨r0, r1⟩ := HRI.out k hlt
        obtain ⟨et, het⟩ : ∃ x, x = m.es[k].t := ⟨_, rfl⟩
        obtain ⟨ei, hei⟩ : ∃ x, x = m.es[k].i := ⟨_, rfl⟩
        rw [← het] at d0 r1
        rw [← hei] at d1 r0
        subst r0
        replace d0 := (hB.out.cell (p := ⟨ga, k * 3, none⟩) hga).trans d0
        replace d1 := (hB.out.cell (p := ⟨ga, k * 3 + 1, none⟩) hga).trans d1
        clear het hei
        have t1 : ¬ (m.term : Int) < (et : Int) := by omega
        go_wp2_with fail
        go_quiet (fail)
        go_wp2_with fail
        exact ⟨⟨k + 1, by omega, by go_num, below_drewN hB.out nq⟩, by simp [intOf]; omega⟩
      · obtain rfl : k = m.es.length := by omega
        go_wp2_with fail
        refine (works_any wr).mono ?_
        rintro e w7 ⟨rfl, hb7⟩
        have B7 := Lib.hid ((B3.out.trans (hB.out.mono B3.out.size)).trans (hb7.mono (Nat.le_trans B3.out.size hB.out.size)))
        clear hb7
        go_wp2_with fail
        go_ret
        exact ⟨rfl, B7.out⟩
end Go.Proofs.Ytdemkcnhcgiheaa
