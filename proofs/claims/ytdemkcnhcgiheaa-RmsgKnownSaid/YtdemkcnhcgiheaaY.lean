/- The walks of what Decode calls: must, which panics; the small number; the deferred closure, which recovers. -/
import Derived.Test.YtdemkcnhcgiheaaT
import Derived.Recover
import Derived.RegionTactic
namespace Go.Proofs.Ytdemkcnhcgiheaa
open Go.RowKit
/-- what bytes are given up by -/
abbrev wrongV (e : Int) : PanicEntry := { v := .iface 68 (.agg #[.int .i64 e]), recovered := false }
theorem must_yes (e : Int) (w : World) : Calls Try.prog 45 #[.bool true, .int .i64 e] w fun r w' => r = .returned (.tuple #[]) ∧ w' = w := by
  go_enter Try.func45, Try.ntmps45
  go_wp2_with fail
  go_end0
  exact ⟨rfl, rfl⟩
theorem must_no (e : Int) (w : World) : Calls Try.prog 45 #[.bool false, .int .i64 e] w fun r w' => r = .panicked [wrongV e] ∧ w' = w := by
  go_enter Try.func45, Try.ntmps45
  go_wp2_with fail
  exact ⟨rfl, rfl, rfl⟩
theorem small_yes (r : Rd) (b g : Nat) (w : World) (hg : w.cell? ⟨g, 0, none⟩ = some (.pointer (some ⟨b, 0, none⟩))) (hb : IsRd w b r) (hl : (r.getD []).length ≤ 1000000) (hn : (rnum r).1 ≤ 64) :
    Calls Try.prog 46 #[.pointer (some ⟨g, 0, none⟩)] w fun e w' => e = .returned (.int .i64 (rnum r).1) ∧ IsRd w' b (rnum r).2 ∧ But w.heap.size b w w' := by
  have HB := Lib.hid hb
  have hc : ∀ u w, (convert 22 3 (.int .u64 u)).run Try.prog w = .ok (.int .i64 (IntKind.i64.wrap u)) w := fun _ _ => rfl
  clear hb
  go_enter Try.func46, Try.ntmps46
  go_wp2_with fail
  refine (num_any r b w HB.out hl).mono ?_
  rintro e w1 ⟨rfl, hr1, hb1⟩
  have H1 := Lib.hid hr1
  have G1 := Lib.hid hb1
  clear hr1 hb1
  have hq : ((((rnum r).1 : Nat) : Int) ≤ 64) = True := eq_true (by omega)
  go_wp2_with fail
  refine (must_yes 4 w1).mono ?_
  rintro e w2 ⟨rfl, rfl⟩
  have hw : IntKind.i64.wrap ((rnum r).1 : Int) = ((rnum r).1 : Int) := by simp only [IntKind.wrap_i64]; omega
  go_wp2_with fail
  go_ret
  exact ⟨by simp, H1.out, G1.out⟩
theorem small_no (r : Rd) (b g : Nat) (w : World) (hg : w.cell? ⟨g, 0, none⟩ = some (.pointer (some ⟨b, 0, none⟩))) (hb : IsRd w b r) (hl : (r.getD []).length ≤ 1000000) (hn : ¬ (rnum r).1 ≤ 64) :
    Calls Try.prog 46 #[.pointer (some ⟨g, 0, none⟩)] w fun e w' => e = .panicked [wrongV 4] ∧ But w.heap.size b w w' := by
  have HB := Lib.hid hb
  clear hb
  go_enter Try.func46, Try.ntmps46
  go_wp2_with fail
  refine (num_any r b w HB.out hl).mono ?_
  rintro e w1 ⟨rfl, hr1, hb1⟩
  have H1 := Lib.hid hr1
  have G1 := Lib.hid hb1
  clear hr1 hb1
  go_wp2_with fail
  rw [show decide (((rnum r).1 : Int) ≤ 64) = false from decide_eq_false (by omega)]
  refine (must_no 4 w1).mono ?_
  rintro e w2 ⟨rfl, rfl⟩
  go_wp2_with fail
  exact ⟨rfl, rfl, G1.out⟩
theorem blk_set14 {w : World} {g : Nat} {m : Mg} {v : Value} (h : w.heap[g]? = some (.cells (mgCells m v) 27 (0, 0))) (x0 x1 x2 x3 x4 x5 x6 x7 x8 x9 x10 x11 x12 x13 : Value) :
    ((((((((((((((w.setCell ⟨g, 0, none⟩ x0).setCell ⟨g, 1, none⟩ x1).setCell ⟨g, 2, none⟩ x2).setCell ⟨g, 3, none⟩ x3).setCell ⟨g, 4, none⟩ x4).setCell ⟨g, 5, none⟩ x5).setCell ⟨g, 6, none⟩ x6).setCell ⟨g, 7, none⟩ x7).setCell ⟨g, 8, none⟩ x8).setCell ⟨g, 9, none⟩ x9).setCell ⟨g, 10, none⟩ x10).setCell ⟨g, 11, none⟩ x11).setCell ⟨g, 12, none⟩ x12).setCell ⟨g, 13, none⟩ x13).heap[g]? = some (.cells #[x0, x1, x2, x3, x4, x5, x6, x7, x8, x9, x10, x11, x12, x13] 27 (0, 0)) := by
  have := blk_set (blk_set (blk_set (blk_set (blk_set (blk_set (blk_set (blk_set (blk_set (blk_set (blk_set (blk_set (blk_set (blk_set h 0 x0) 1 x1) 2 x2) 3 x3) 4 x4) 5 x5) 6 x6) 7 x7) 8 x8) 9 x9) 10 x10) 11 x11) 12 x12) 13 x13
  exact this.trans (congrArg (fun c => some (Obj.cells c 27 (0, 0))) (by kernel_rfl))
theorem zeroM_cells : mgCells zeroM (.slice none 0 0) = #[.int .i64 0, .int .i64 0, .int .i64 0, .int .u64 0, .int .u64 0, .int .u64 0, .int .u64 0, .slice none 0 0, .bool false, .int .u64 0, .int .u64 0, .int .u64 0, .int .u64 0, .string ⟨#[]⟩] := by kernel_rfl
theorem mg_frozen {m : Mg} {v : Value} {g : Nat} {w : World} (h : w.heap[g]? = some (.cells (mgCells m v) 27 (0, 0))) (i : Nat) : w.frozen? ⟨g, i, none⟩ = false := blk_frozen h i
set_option maxHeartbeats 1600000 in
theorem saves_no (g h : Nat) (x : Value) (e : Int) (older : List PanicEntry) (w : World) (m : Mg) (v : Value) (hg : w.heap[g]? = some (.cells (mgCells m v) 27 (0, 0))) (hh : w.heap[h]? = some (.cells #[x] 29 (0, 0))) (hne : g ≠ h) :
    CallsD Try.prog 44 #[.pointer (some ⟨g, 0, none⟩), .pointer (some ⟨h, 0, none⟩)] (.panicking (wrongV e :: older)) w fun r u' w' =>
      r = .returned (.tuple #[]) ∧ u' = .panicking ({ v := .iface 68 (.agg #[.int .i64 e]), recovered := true } :: older) ∧
      w'.heap[g]? = some (.cells (mgCells zeroM (.slice none 0 0)) 27 (0, 0)) ∧ w'.heap[h]? = some (.cells #[.int .i64 e] 29 (0, 0)) ∧ ∀ (B : Nat) (W : World), B ≤ g → B ≤ h → Below B W w → Below B W w' := by
  refine callsD_of_wpS Try.func44 rfl fun c₀ cs hu => ?_
  obtain ⟨c0, c1, c2, c3, c4, c5, c6, c7, c8, c9, c10, c11, c12, c13⟩ := mg_cells hg
  have f := mg_frozen hg
  have f0 := f 0
  have f1 := f 1
  have f2 := f 2
  have f3 := f 3
  have f4 := f 4
  have f5 := f 5
  have f6 := f 6
  have f7 := f 7
  have f8 := f 8
  have f9 := f 9
  have f10 := f 10
  have f11 := f 11
  have f12 := f 12
  have f13 := f 13
  have d0 : w.cell? ⟨h, 0, none⟩ = some x := blk_cell hh 0
  have e0 := blk_frozen hh 0
  have hgl := blk_lt hg
  have hhl := blk_lt hh
  have HG := Lib.hid hg
  have HH := Lib.hid hh
  clear f hg hh
  apply wpS_seq
  apply wpS_region
  simp [wpOpsS, go_sem, recoverD, hu, Try.ntmps44, Exit.thenS]
  rw [show #[Value.pointer (some ⟨g, 0, none⟩), Value.pointer (some ⟨h, 0, none⟩)] ++ ((Array.replicate 17 undef).setIfInBounds 3 (Value.iface 68 (.agg #[.int .i64 e]))).setIfInBounds 0 (.iface 68 (.agg #[.int .i64 e])) = #[Value.pointer (some ⟨g, 0, none⟩), Value.pointer (some ⟨h, 0, none⟩), .iface 68 (.agg #[.int .i64 e]), undef, undef, .iface 68 (.agg #[.int .i64 e]), undef, undef, undef, undef, undef, undef, undef, undef, undef, undef, undef, undef, undef] from rfl]
  refine wpS_of_wp ?_
  have hta : ∀ (y : Value) (W : World), (Instr.typeAssert (.iface 68 y) 20 68 true).run Try.prog W = .ok (.tuple #[y, .bool true]) W := fun y W => by kernel_rfl
  go_wp2_with fail
  go_region
  clear f0 f1 f2 f3 f4 f5 f6 f7 f8 f9 f10 f11 f12 f13 c0 c1 c2 c3 c4 c5 c6 c7 c8 c9 c10 c11 c12 c13
  go_wp2_with fail
  refine ⟨rfl, _, rfl, .tuple #[], ?_, rfl, rfl, ?_, ?_, ?_⟩
  · simp [results, Try.results44]
  · rw [zeroM_cells]
    exact blk_drew (blk_alloc (blk_other (a := ⟨h, 0, none⟩) (blk_set14 HG.out _ _ _ _ _ _ _ _ _ _ _ _ _ _) hne _) _)
  · refine blk_drew (blk_alloc (blk_set (cs := #[x]) ?_ 0 _) _)
    exact blk_other (blk_other (blk_other (blk_other (blk_other (blk_other (blk_other (blk_other (blk_other (blk_other (blk_other (blk_other (blk_other (blk_other HH.out hne.symm _) hne.symm _) hne.symm _) hne.symm _) hne.symm _) hne.symm _) hne.symm _) hne.symm _) hne.symm _) hne.symm _) hne.symm _) hne.symm _) hne.symm _) hne.symm _
  · intro B W h1 h2 hb
    have hb0 := but_of_below hb g
    refine But.below (b := g) (But.drew (But.alloc (But.setNew (p := ⟨h, 0, none⟩) ?_ h2 _) ?_ _)) h1
    · exact ((((((((((((((hb0.set 0 _).set 1 _).set 2 _).set 3 _).set 4 _).set 5 _).set 6 _).set 7 _).set 8 _).set 9 _).set 10 _).set 11 _).set 12 _).set 13 _)
    · simp only [size_set]; omega
set_option maxHeartbeats 1600000 in
theorem saves_yes (p q : Addr) (w : World) :
    CallsD Try.prog 44 #[.pointer (some p), .pointer (some q)] .returning w fun r u' w' => r = .returned (.tuple #[]) ∧ u' = .returning ∧ w' = w := by
  refine callsD_of_wpS Try.func44 rfl fun c₀ cs hu => ?_
  apply wpS_seq
  apply wpS_region
  simp [wpOpsS, go_sem, recoverD, hu, Try.ntmps44, Exit.thenS]
  rw [show #[Value.pointer (some p), Value.pointer (some q)] ++ ((Array.replicate 17 undef).setIfInBounds 3 Value.nilIface).setIfInBounds 0 Value.nilIface = #[Value.pointer (some p), Value.pointer (some q), .nilIface, undef, undef, .nilIface, undef, undef, undef, undef, undef, undef, undef, undef, undef, undef, undef, undef, undef] from rfl]
  refine wpS_of_wp ?_
  go_wp2_with fail
  refine ⟨rfl, .returning, ?_, .tuple #[], ?_, rfl, rfl, rfl⟩
  · cases c₀
    simp only at hu
    rw [hu]
  · simp [results, Try.results44]
end Go.Proofs.Ytdemkcnhcgiheaa
