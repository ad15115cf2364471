/- What Check asks, as one; the walk of slices.IndexFunc over the four questions. -/
import Derived.Test.YtdemkcnhcgiheaaR
namespace Go.Proofs.Ytdemkcnhcgiheaa
open Go.RowKit
set_option maxHeartbeats 400000 in
theorem no31_any (r : Bool) (g : Nat) (w : World) (h : Calls Try.prog 31 #[.pointer (some ⟨g, 0, none⟩)] w fun e w' => e = .returned (.bool r) ∧ Below w.heap.size w w') :
    Calls Try.prog 60 #[.func (.func 31) #[] #[.pointer (some ⟨g, 0, none⟩)]] w fun e w' => e = .returned (.bool (!r)) ∧ Below w.heap.size w w' := by
  have H := Lib.hid h
  clear h
  go_enter Try.func60, Try.ntmps60
  go_wp2_with fail
  refine H.out.mono ?_
  rintro e w1 ⟨rfl, hb1⟩
  have HB1 := Lib.hid hb1
  clear hb1
  go_wp2_with fail
  go_ret
  exact ⟨rfl, HB1.out⟩
set_option maxHeartbeats 400000 in
theorem no32_any (r : Bool) (g : Nat) (w : World) (h : Calls Try.prog 32 #[.pointer (some ⟨g, 0, none⟩)] w fun e w' => e = .returned (.bool r) ∧ Below w.heap.size w w') :
    Calls Try.prog 60 #[.func (.func 32) #[] #[.pointer (some ⟨g, 0, none⟩)]] w fun e w' => e = .returned (.bool (!r)) ∧ Below w.heap.size w w' := by
  have H := Lib.hid h
  clear h
  go_enter Try.func60, Try.ntmps60
  go_wp2_with fail
  refine H.out.mono ?_
  rintro e w1 ⟨rfl, hb1⟩
  have HB1 := Lib.hid hb1
  clear hb1
  go_wp2_with fail
  go_ret
  exact ⟨rfl, HB1.out⟩
set_option maxHeartbeats 400000 in
theorem no34_any (r : Bool) (g : Nat) (w : World) (h : Calls Try.prog 34 #[.pointer (some ⟨g, 0, none⟩)] w fun e w' => e = .returned (.bool r) ∧ Below w.heap.size w w') :
    Calls Try.prog 60 #[.func (.func 34) #[] #[.pointer (some ⟨g, 0, none⟩)]] w fun e w' => e = .returned (.bool (!r)) ∧ Below w.heap.size w w' := by
  have H := Lib.hid h
  clear h
  go_enter Try.func60, Try.ntmps60
  go_wp2_with fail
  refine H.out.mono ?_
  rintro e w1 ⟨rfl, hb1⟩
  have HB1 := Lib.hid hb1
  clear hb1
  go_wp2_with fail
  go_ret
  exact ⟨rfl, HB1.out⟩
set_option maxHeartbeats 400000 in
theorem no36_any (r : Bool) (g : Nat) (w : World) (h : Calls Try.prog 36 #[.pointer (some ⟨g, 0, none⟩)] w fun e w' => e = .returned (.bool r) ∧ Below w.heap.size w w') :
    Calls Try.prog 60 #[.func (.func 36) #[] #[.pointer (some ⟨g, 0, none⟩)]] w fun e w' => e = .returned (.bool (!r)) ∧ Below w.heap.size w w' := by
  have H := Lib.hid h
  clear h
  go_enter Try.func60, Try.ntmps60
  go_wp2_with fail
  refine H.out.mono ?_
  rintro e w1 ⟨rfl, hb1⟩
  have HB1 := Lib.hid hb1
  clear hb1
  go_wp2_with fail
  go_ret
  exact ⟨rfl, HB1.out⟩
/-- what Check asks -/
def chk1 (m : Mg) : Bool := decide (1 ≤ m.k ∧ m.k ≤ 7 ∧ 0 ≤ m.f ∧ m.f ≤ 6 ∧ 0 ≤ m.t ∧ m.t ≤ 6 ∧ m.f ≠ m.t)
def chk2 (m : Mg) : Bool := decide (1 ≤ m.term ∧ m.term ≤ 1099511627776 ∧ m.ix ≤ 1099511627776 ∧ m.lt ≤ 1099511627776 ∧ m.cm ≤ 1099511627776 ∧ m.hi ≤ 1099511627776 ∧ m.cx ≤ 1099511627776)
def chk3 (m : Mg) : Bool := decide ((m.k = 3 ∨ m.es.length = 0) ∧ m.es.length ≤ 64) && riseB m.ix m.term 0 1 m.es
def chk4 (m : Mg) : Bool := if m.k ≠ 7 then decide (m.si = 0 ∧ m.st = 0 ∧ m.sd = []) else decide (1 ≤ m.si ∧ m.si ≤ 1099511627776 ∧ 1 ≤ m.st ∧ m.st ≤ m.term ∧ m.sd.length ≤ 60000)
def checkB (m : Mg) : Bool := chk1 m && (chk2 m && (chk3 m && chk4 m))
theorem chk2_ix {m : Mg} (h : chk2 m = true) : m.ix ≤ 1099511627776 := (of_decide_eq_true h).2.2.1
def fourAsk (g : Nat) : Array Value := #[.func (.func 31) #[] #[.pointer (some ⟨g, 0, none⟩)], .func (.func 32) #[] #[.pointer (some ⟨g, 0, none⟩)], .func (.func 34) #[] #[.pointer (some ⟨g, 0, none⟩)], .func (.func 36) #[] #[.pointer (some ⟨g, 0, none⟩)]]
/-- a world above w: a message's block stands, and its entries -/
structure Stands (m : Mg) (v : Value) (g : Nat) (w W : World) : Prop where
  blk : W.heap[g]? = some (.cells (mgCells m v) 27 (0, 0))
  ents : EntsAt W v m.es
  below : Below w.heap.size w W
theorem Stands.step {m : Mg} {v : Value} {g : Nat} {w W W' : World} (h : Stands m v g w W) (hb : Below W.heap.size W W') : Stands m v g w W' :=
  ⟨blk_below hb (blk_lt h.blk) h.blk, h.ents.below hb (Nat.le_refl _), h.below.trans (hb.mono h.below.size)⟩
theorem Stands.alloc {m : Mg} {v : Value} {g : Nat} {w W : World} (h : Stands m v g w W) (o : Obj) : Stands m v g w (W.alloc o) :=
  h.step ((Below.refl _ _).alloc (Nat.le_refl _) o)
theorem no1 {m : Mg} {v : Value} {g : Nat} {w W : World} (h : Stands m v g w W) : Calls Try.prog 60 #[.func (.func 31) #[] #[.pointer (some ⟨g, 0, none⟩)]] W fun e w' => e = .returned (.bool (!chk1 m)) ∧ Below W.heap.size W w' := by
  have c := mg_cells h.blk
  exact no31_any _ g W ((check1_any m.k m.f m.t g W c.1 c.2.1 c.2.2.1).mono (fun e w' h => ⟨h.1, by rw [h.2]; exact Below.refl _ _⟩))
theorem no2 {m : Mg} {v : Value} {g : Nat} {w W : World} (h : Stands m v g w W) : Calls Try.prog 60 #[.func (.func 32) #[] #[.pointer (some ⟨g, 0, none⟩)]] W fun e w' => e = .returned (.bool (!chk2 m)) ∧ Below W.heap.size W w' := by
  obtain ⟨_, _, _, c3, c4, c5, c6, _, _, c9, c10, _⟩ := mg_cells h.blk
  exact no32_any _ g W (check2_any m.term m.ix m.lt m.cm m.hi m.cx g W c3 c4 c5 c6 c9 c10)
theorem no3 {m : Mg} {v : Value} {g : Nat} {w W : World} (hm : m.fit) (hix : m.ix ≤ 1099511627776) (h : Stands m v g w W) : Calls Try.prog 60 #[.func (.func 34) #[] #[.pointer (some ⟨g, 0, none⟩)]] W fun e w' => e = .returned (.bool (!chk3 m)) ∧ Below W.heap.size W w' :=
  no34_any _ g W (check3_any m v g W hm hix h.ents h.blk)
theorem no4 {m : Mg} {v : Value} {g : Nat} {w W : World} (hm : m.fit) (h : Stands m v g w W) : Calls Try.prog 60 #[.func (.func 36) #[] #[.pointer (some ⟨g, 0, none⟩)]] W fun e w' => e = .returned (.bool (!chk4 m)) ∧ Below W.heap.size W w' :=
  no36_any _ g W (check4_any m v g W hm h.blk)
set_option maxRecDepth 100000 in
set_option maxHeartbeats 1600000 in
theorem index_any (m : Mg) (v : Value) (g b : Nat) (T : TypeId) (w : World) (hm : m.fit) (h : Stands m v g w w) (hb : w.heap[b]? = some (.cells (fourAsk g) T (0, 0))) :
    Calls Try.prog 64 #[.slice (some ⟨b, 0, none⟩) 4 4, .func (.func 60) #[] #[]] w fun e w' => (∃ i : Int, e = .returned (.int .i64 i) ∧ -1 ≤ i ∧ i ≤ 4 ∧ decide (0 ≤ i) = !checkB m) ∧ Below w.heap.size w w' := by
  have HB := Lib.hid hb
  have H := Lib.hid h
  have HM := Lib.hid hm
  obtain ⟨r1, hr1⟩ : ∃ r, r = chk1 m := ⟨_, rfl⟩
  obtain ⟨r2, hr2⟩ : ∃ r, r = chk2 m := ⟨_, rfl⟩
  obtain ⟨r3, hr3⟩ : ∃ r, r = chk3 m := ⟨_, rfl⟩
  obtain ⟨r4, hr4⟩ : ∃ r, r = chk4 m := ⟨_, rfl⟩
  have hr : checkB m = (r1 && (r2 && (r3 && r4))) := by rw [checkB, hr1, hr2, hr3, hr4]
  rw [hr]
  have HR1 := Lib.hid hr1
  have HR2 := Lib.hid hr2
  have HR3 := Lib.hid hr3
  have HR4 := Lib.hid hr4
  clear hb h hm hr hr1 hr2 hr3 hr4
  go_enter Try.func64, Try.ntmps64
  go_wp2_with fail
  go_loopw [8] (fun i W => ∃ k : Nat, k ≤ 4 ∧ i = .int .i64 k ∧ Hid (Stands m v g w W) ∧ Hid ((1 ≤ k → r1 = true) ∧ (2 ≤ k → r2 = true) ∧ (3 ≤ k → r3 = true) ∧ (4 ≤ k → r4 = true))) (fun i _ => 4 - (intOf i).toNat)
  case atStart => exact ⟨0, by omega, rfl, H.out, by omega, by omega, by omega, by omega⟩
  case round =>
    obtain ⟨k, hk, rfl, hS, hK⟩ := hrel
    have hsz := hS.out.below.size
    rcases Nat.lt_or_ge k 1 with hk0 | hk0
    · obtain rfl : k = 0 := by omega
      have hc : wr.cell? ⟨b, 0, none⟩ = some (.func (.func 31) #[] #[.pointer (some ⟨g, 0, none⟩)]) := by
        rw [hS.out.below.cell (p := ⟨b, 0, none⟩) (blk_lt HB.out), blk_cell HB.out]; rfl
      have hcall := no1 hS.out
      rw [← HR1.out] at hcall
      have HCALL := Lib.hid hcall
      clear hcall
      cases r1
      · go_wp2_with fail
        refine HCALL.out.mono ?_
        rintro e w1 ⟨rfl, hb1⟩
        have HS1 := Lib.hid (hS.out.step hb1)
        clear hb1
        go_wp2_with fail
        go_ret
        refine ⟨⟨_, rfl, by decide, by decide, ?_⟩, HS1.out.below⟩
        simp
      · go_wp2_with fail
        refine HCALL.out.mono ?_
        rintro e w1 ⟨rfl, hb1⟩
        have HS1 := Lib.hid (hS.out.step hb1)
        clear hb1
        go_wp2_with fail
        refine ⟨⟨1, by omega, by go_num, HS1.out, ?_⟩, by simp [intOf]⟩
        have := hK.out
        refine ⟨fun _ => ?_, fun h => ?_, fun h => ?_, fun h => ?_⟩ <;> first | trivial | rfl | exact absurd h (by omega) | exact this.1 (by omega) | exact this.2.1 (by omega) | exact this.2.2.1 (by omega) | omega
    rcases Nat.lt_or_ge k 2 with hk1 | hk1
    · obtain rfl : k = 1 := by omega
      have hc : wr.cell? ⟨b, 1, none⟩ = some (.func (.func 32) #[] #[.pointer (some ⟨g, 0, none⟩)]) := by
        rw [hS.out.below.cell (p := ⟨b, 1, none⟩) (blk_lt HB.out), blk_cell HB.out]; rfl
      have hcall := no2 hS.out
      rw [← HR2.out] at hcall
      have HCALL := Lib.hid hcall
      clear hcall
      cases r2
      · go_wp2_with fail
        refine HCALL.out.mono ?_
        rintro e w1 ⟨rfl, hb1⟩
        have HS1 := Lib.hid (hS.out.step hb1)
        clear hb1
        go_wp2_with fail
        go_ret
        refine ⟨⟨_, rfl, by decide, by decide, ?_⟩, HS1.out.below⟩
        simp
      · go_wp2_with fail
        refine HCALL.out.mono ?_
        rintro e w1 ⟨rfl, hb1⟩
        have HS1 := Lib.hid (hS.out.step hb1)
        clear hb1
        go_wp2_with fail
        refine ⟨⟨2, by omega, by go_num, HS1.out, ?_⟩, by simp [intOf]⟩
        have := hK.out
        refine ⟨fun _ => ?_, fun h => ?_, fun h => ?_, fun h => ?_⟩ <;> first | trivial | rfl | exact absurd h (by omega) | exact this.1 (by omega) | exact this.2.1 (by omega) | exact this.2.2.1 (by omega) | omega
    rcases Nat.lt_or_ge k 3 with hk2 | hk2
    · obtain rfl : k = 2 := by omega
      have hc : wr.cell? ⟨b, 2, none⟩ = some (.func (.func 34) #[] #[.pointer (some ⟨g, 0, none⟩)]) := by
        rw [hS.out.below.cell (p := ⟨b, 2, none⟩) (blk_lt HB.out), blk_cell HB.out]; rfl
      have hcall := no3 HM.out (chk2_ix (HR2.out.symm.trans (hK.out.2.1 (by omega)))) hS.out
      rw [← HR3.out] at hcall
      have HCALL := Lib.hid hcall
      clear hcall
      cases r3
      · go_wp2_with fail
        refine HCALL.out.mono ?_
        rintro e w1 ⟨rfl, hb1⟩
        have HS1 := Lib.hid (hS.out.step hb1)
        clear hb1
        go_wp2_with fail
        go_ret
        refine ⟨⟨_, rfl, by decide, by decide, ?_⟩, HS1.out.below⟩
        simp
      · go_wp2_with fail
        refine HCALL.out.mono ?_
        rintro e w1 ⟨rfl, hb1⟩
        have HS1 := Lib.hid (hS.out.step hb1)
        clear hb1
        go_wp2_with fail
        refine ⟨⟨3, by omega, by go_num, HS1.out, ?_⟩, by simp [intOf]⟩
        have := hK.out
        refine ⟨fun _ => ?_, fun h => ?_, fun h => ?_, fun h => ?_⟩ <;> first | trivial | rfl | exact absurd h (by omega) | exact this.1 (by omega) | exact this.2.1 (by omega) | exact this.2.2.1 (by omega) | omega
    rcases Nat.lt_or_ge k 4 with hk3 | hk3
    · obtain rfl : k = 3 := by omega
      have hc : wr.cell? ⟨b, 3, none⟩ = some (.func (.func 36) #[] #[.pointer (some ⟨g, 0, none⟩)]) := by
        rw [hS.out.below.cell (p := ⟨b, 3, none⟩) (blk_lt HB.out), blk_cell HB.out]; rfl
      have hcall := no4 HM.out hS.out
      rw [← HR4.out] at hcall
      have HCALL := Lib.hid hcall
      clear hcall
      cases r4
      · go_wp2_with fail
        refine HCALL.out.mono ?_
        rintro e w1 ⟨rfl, hb1⟩
        have HS1 := Lib.hid (hS.out.step hb1)
        clear hb1
        go_wp2_with fail
        go_ret
        refine ⟨⟨_, rfl, by decide, by decide, ?_⟩, HS1.out.below⟩
        simp
      · go_wp2_with fail
        refine HCALL.out.mono ?_
        rintro e w1 ⟨rfl, hb1⟩
        have HS1 := Lib.hid (hS.out.step hb1)
        clear hb1
        go_wp2_with fail
        refine ⟨⟨4, by omega, by go_num, HS1.out, ?_⟩, by simp [intOf]⟩
        have := hK.out
        refine ⟨fun _ => ?_, fun h => ?_, fun h => ?_, fun h => ?_⟩ <;> first | trivial | rfl | exact absurd h (by omega) | exact this.1 (by omega) | exact this.2.1 (by omega) | exact this.2.2.1 (by omega) | omega
    obtain rfl : k = 4 := by omega
    have h1 := hK.out.1 (by omega)
    have h2 := hK.out.2.1 (by omega)
    have h3 := hK.out.2.2.1 (by omega)
    have h4 := hK.out.2.2.2 (by omega)
    go_wp2_with fail
    go_ret
    refine ⟨⟨_, rfl, by decide, by decide, ?_⟩, hS.out.below⟩
    rw [h1, h2, h3, h4]
    rfl
end Go.Proofs.Ytdemkcnhcgiheaa
