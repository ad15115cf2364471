/- Entries: as bytes, and read of bytes, by package rmsg and by the document. Conditions: numbers are of 64 bits; the texts are short. -/
import Derived.Test.YtdemkcnhcgiheaaJ
import Derived.Test.YtdemkcnhcgiheaaD
namespace Go.Proofs.Ytdemkcnhcgiheaa
open Go.RowKit
theorem blk_set3 {w : World} {g : Nat} {a b c : Value} {t : TypeId} (h : w.heap[g]? = some (.cells #[a, b, c] t (0, 0))) (x y z : Value) :
    (((w.setCell ⟨g, 0, none⟩ x).setCell ⟨g, 1, none⟩ y).setCell ⟨g, 2, none⟩ z).heap[g]? = some (.cells #[x, y, z] t (0, 0)) := by
  have := blk_set (blk_set (blk_set h 0 x) 1 y) 2 z
  exact this
theorem results_row_tmp {P : Program} {fn : Func} {p u : Tmp} {ty : TypeId} (h : fn.results = #[.cell p ty, .tmp u]) (tmps : Array Value) (w : World) (g : Nat) (t : TypeId) (cs : Array Value) (fr : Nat × Nat) (d : TypeDesc) (v : Value)
    (hp : tmps.getD p undef = .pointer (some ⟨g, 0, none⟩)) (hg : w.heap[g]? = some (.cells cs t fr))
    (hu : P.underlying ty = some d) (hd : (match d with | .struct _ | .array _ _ => true | _ => false) = true) (hi : (P.info? ty).map (·.size) = some cs.size) (hv : tmps.getD u undef = v) :
    (results fn tmps).run P w = .ok (.tuple #[.agg cs, v]) w := by
  rw [results_cell_tmp h, hp, hv]
  simp only [asAddr, Sem.run_pure, Result.andThen, run_loadVar_row w g t ty cs fr d hg hu hd hi]
structure Ent where
  t : Nat
  i : Nat
  d : Bs
deriving DecidableEq
/-- an entry's three cells -/
def entCells (e : Ent) : Array Value := #[.int .u64 (e.t : Int), .int .u64 (e.i : Int), .string (bs e.d)]
def entB (e : Ent) : Bs := num e.t ++ (num e.i ++ text e.d)
/-- an entry's numbers are of 64 bits, its data short -/
structure Ent.ok (e : Ent) (n : Nat) : Prop where
  t : e.t < 18446744073709551616
  i : e.i < 18446744073709551616
  d : e.d.length ≤ n
theorem entB_length {e : Ent} {n : Nat} (h : e.ok n) (hn : n ≤ 90000) : (entB e).length ≤ 27 + n := by
  have h1 := num_length_le h.t
  have h2 := num_length_le h.i
  have h3 := text_length_le (t := e.d) (by have := h.d; omega)
  have h4 := h.d
  simp [entB]; omega
/-- the worlds in which block g is as it was, and nothing that was there has turned -/
def BlkC (w : World) (g : Nat) (o : Obj) (W : World) : Prop := W.heap[g]? = some o ∧ Below w.heap.size w W
theorem BlkC.step {w W W' : World} {g : Nat} {o : Obj} (h : BlkC w g o W) (hb : Below W.heap.size W W') : BlkC w g o W' :=
  ⟨blk_below hb (blk_lt h.1) h.1, h.2.trans (hb.mono h.2.size)⟩
set_option maxHeartbeats 400000 in
theorem putEntry_any (l : Bs) (e : Ent) (w : World) (he : e.ok 90000) (hl : l.length ≤ 800000) :
    Calls Try.prog 11 #[.string (bs l), .agg (entCells e)] w fun r w' => r = .returned (.string (bs (l ++ entB e))) ∧ Below w.heap.size w w' := by
  have hPN : ∀ (l' : Bs) (n : Nat) (x : In (BlkC w w.heap.size (.cells (entCells e) 34 (0, 0)))), l'.length ≤ 1000000 → n < 18446744073709551616 →
      Calls Try.prog 28 #[.string (bs l'), .int .u64 (n : Int)] x.w fun r w' => r = .returned (.string (bs (l' ++ num n))) ∧ ∃ y : In (BlkC w w.heap.size (.cells (entCells e) 34 (0, 0))), w' = y.w := by
    intro l' n x h1 h2
    refine (putNum_any l' n x.w h2 h1).mono ?_
    rintro r w1 ⟨rfl, hb⟩
    exact ⟨rfl, ⟨w1, x.h.step hb⟩, rfl⟩
  have hPT : ∀ (l' : Bs) (x : In (BlkC w w.heap.size (.cells (entCells e) 34 (0, 0)))), l'.length ≤ 900000 →
      Calls Try.prog 27 #[.string (bs l'), .string (bs e.d)] x.w fun r w' => r = .returned (.string (bs (l' ++ text e.d))) ∧ ∃ y : In (BlkC w w.heap.size (.cells (entCells e) 34 (0, 0))), w' = y.w := by
    intro l' x h1
    refine (putText_any l' e.d x.w h1 he.d).mono ?_
    rintro r w1 ⟨rfl, hb⟩
    exact ⟨rfl, ⟨w1, x.h.step hb⟩, rfl⟩
  have hc0 : ∀ x : In (BlkC w w.heap.size (.cells (entCells e) 34 (0, 0))), x.w.cell? ⟨w.heap.size, 0, none⟩ = some (.int .u64 (e.t : Int)) := fun x => blk_cell x.h.1 0
  have hc1 : ∀ x : In (BlkC w w.heap.size (.cells (entCells e) 34 (0, 0))), x.w.cell? ⟨w.heap.size, 1, none⟩ = some (.int .u64 (e.i : Int)) := fun x => blk_cell x.h.1 1
  have hc2 : ∀ x : In (BlkC w w.heap.size (.cells (entCells e) 34 (0, 0))), x.w.cell? ⟨w.heap.size, 2, none⟩ = some (.string (bs e.d)) := fun x => blk_cell x.h.1 2
  have h1 := num_length_le he.t
  have h2 := num_length_le he.i
  have HE := Lib.hid he
  have HPN := Lib.hid hPN
  have HPT := Lib.hid hPT
  have HC : Hid (BlkC w w.heap.size (.cells (entCells e) 34 (0, 0)) (w.alloc (.cells (entCells e) 34 (0, 0))).drew) := ⟨blk_new _ _, ((Below.refl _ _).alloc (Nat.le_refl _) _).drew⟩
  have hne : Nonempty (In (BlkC w w.heap.size (.cells (entCells e) 34 (0, 0)))) := ⟨⟨_, HC.out⟩⟩
  clear hPN hPT he
  unfold entCells
  go_enter Try.func11, Try.ntmps11
  go_wp2_with fail
  refine wp_region_in (BlkC w w.heap.size (.cells (entCells e) 34 (0, 0))) (by kernel_rfl) (by kernel_rfl) HC.out ?_
  repeat (any_goals (first | go_big_quiet_step (first | (go_at_call 28; exact HPN.out _ _ _ (by first | omega | (simp; omega)) (by first | exact HE.out.t | exact HE.out.i)) | (go_at_call 27; exact HPT.out _ _ (by first | omega | (simp; omega)))) | quiet_step (first | (go_at_call 28; exact HPN.out _ _ _ (by first | omega | (simp; omega)) (by first | exact HE.out.t | exact HE.out.i)) | (go_at_call 27; exact HPT.out _ _ (by first | omega | (simp; omega))))))
  refine wpQuiet_nil ?_
  intro x
  go_wp2_with fail
  go_ret
  exact ⟨congrArg (fun z => Ending.returned (.string (bs z))) (by simp [entB]), x.h.2⟩
set_option maxHeartbeats 400000 in
theorem refPutEntry_any (l : Bs) (e : Ent) (w : World) (he : e.ok 90000) (hl : l.length ≤ 800000) :
    Calls Try.prog 12 #[.string (bs l), .agg (entCells e)] w fun r w' => r = .returned (.string (bs (l ++ entB e))) ∧ Below w.heap.size w w' := by
  have hPN : ∀ (l' : Bs) (n : Nat) (x : In (BlkC w w.heap.size (.cells (entCells e) 34 (0, 0)))), l'.length ≤ 1000000 → n < 18446744073709551616 →
      Calls Try.prog 30 #[.string (bs l'), .int .u64 (n : Int)] x.w fun r w' => r = .returned (.string (bs (l' ++ num n))) ∧ ∃ y : In (BlkC w w.heap.size (.cells (entCells e) 34 (0, 0))), w' = y.w := by
    intro l' n x h1 h2
    refine (refPutNum_any l' n x.w h2 h1).mono ?_
    rintro r w1 ⟨rfl, hb⟩
    exact ⟨rfl, ⟨w1, x.h.step hb⟩, rfl⟩
  have hPT : ∀ (l' : Bs) (x : In (BlkC w w.heap.size (.cells (entCells e) 34 (0, 0)))), l'.length ≤ 900000 →
      Calls Try.prog 29 #[.string (bs l'), .string (bs e.d)] x.w fun r w' => r = .returned (.string (bs (l' ++ text e.d))) ∧ ∃ y : In (BlkC w w.heap.size (.cells (entCells e) 34 (0, 0))), w' = y.w := by
    intro l' x h1
    refine (refPutText_any l' e.d x.w h1 he.d).mono ?_
    rintro r w1 ⟨rfl, hb⟩
    exact ⟨rfl, ⟨w1, x.h.step hb⟩, rfl⟩
  have hc0 : ∀ x : In (BlkC w w.heap.size (.cells (entCells e) 34 (0, 0))), x.w.cell? ⟨w.heap.size, 0, none⟩ = some (.int .u64 (e.t : Int)) := fun x => blk_cell x.h.1 0
  have hc1 : ∀ x : In (BlkC w w.heap.size (.cells (entCells e) 34 (0, 0))), x.w.cell? ⟨w.heap.size, 1, none⟩ = some (.int .u64 (e.i : Int)) := fun x => blk_cell x.h.1 1
  have hc2 : ∀ x : In (BlkC w w.heap.size (.cells (entCells e) 34 (0, 0))), x.w.cell? ⟨w.heap.size, 2, none⟩ = some (.string (bs e.d)) := fun x => blk_cell x.h.1 2
  have h1 := num_length_le he.t
  have h2 := num_length_le he.i
  have HE := Lib.hid he
  have HPN := Lib.hid hPN
  have HPT := Lib.hid hPT
  have HC : Hid (BlkC w w.heap.size (.cells (entCells e) 34 (0, 0)) (w.alloc (.cells (entCells e) 34 (0, 0))).drew) := ⟨blk_new _ _, ((Below.refl _ _).alloc (Nat.le_refl _) _).drew⟩
  have hne : Nonempty (In (BlkC w w.heap.size (.cells (entCells e) 34 (0, 0)))) := ⟨⟨_, HC.out⟩⟩
  clear hPN hPT he
  unfold entCells
  go_enter Try.func12, Try.ntmps12
  go_wp2_with fail
  refine wp_region_in (BlkC w w.heap.size (.cells (entCells e) 34 (0, 0))) (by kernel_rfl) (by kernel_rfl) HC.out ?_
  repeat (any_goals (first | go_big_quiet_step (first | (go_at_call 30; exact HPN.out _ _ _ (by first | omega | (simp; omega)) (by first | exact HE.out.t | exact HE.out.i)) | (go_at_call 29; exact HPT.out _ _ (by first | omega | (simp; omega)))) | quiet_step (first | (go_at_call 30; exact HPN.out _ _ _ (by first | omega | (simp; omega)) (by first | exact HE.out.t | exact HE.out.i)) | (go_at_call 29; exact HPT.out _ _ (by first | omega | (simp; omega))))))
  refine wpQuiet_nil ?_
  intro x
  go_wp2_with fail
  go_ret
  exact ⟨congrArg (fun z => Ending.returned (.string (bs z))) (by simp [entB]), x.h.2⟩
/-- the entry that stands at a reader's front -/
def rent (r : Rd) : Ent × Rd := (⟨(rnum r).1, (rnum (rnum r).2).1, (rtext (rnum (rnum r).2).2).1⟩, (rtext (rnum (rnum r).2).2).2)
theorem rent_length (r : Rd) : ((rent r).2.getD []).length ≤ (r.getD []).length :=
  Nat.le_trans (rtext_length _) (Nat.le_trans (rnum_length _) (rnum_length _))
set_option maxHeartbeats 400000 in
theorem entry_any (r : Rd) (b : Nat) (w : World) (hb : IsRd w b r) (hl : (r.getD []).length ≤ 1000000) :
    Calls Try.prog 40 #[.pointer (some ⟨b, 0, none⟩)] w fun e w' => e = .returned (.agg (entCells (rent r).1)) ∧ IsRd w' b (rent r).2 ∧ But w.heap.size b w w' := by
  have hlt := blk_lt hb
  have l1 := rnum_length r
  have l2 := rnum_length (rnum r).2
  have HB := Lib.hid hb
  clear hb
  go_enter Try.func40, Try.ntmps40
  go_wp2_with fail
  refine (num_any r b _ (rd_alloc HB.out _) hl).mono ?_
  rintro e w1 ⟨rfl, hr1, hb1⟩
  have H1 := Lib.hid hr1
  have G1 := Lib.hid hb1
  clear hr1 hb1
  go_wp2_with fail
  refine (num_any _ b _ H1.out (by omega)).mono ?_
  rintro e w2 ⟨rfl, hr2, hb2⟩
  have H2 := Lib.hid hr2
  have G2 := Lib.hid (G1.out.trans (hb2.mono G1.out.size))
  clear hr2 hb2
  go_wp2_with fail
  refine (text_any _ b _ H2.out (by omega)).mono ?_
  rintro e w3 ⟨rfl, hr3, hb3⟩
  have H3 := Lib.hid hr3
  have G3 := Lib.hid (G2.out.trans (hb3.mono G2.out.size))
  have hcell := blk_but G3.out (c := w.heap.size) (by simp) (by omega) (blk_new w (.cells #[.int .u64 0, .int .u64 0, .string ⟨#[]⟩] 34))
  clear hr3 hb3
  have c0 := blk_cell hcell 0
  have c1 := blk_cell hcell 1
  have c2 := blk_cell hcell 2
  have f0 := blk_frozen hcell 0
  have f1 := blk_frozen hcell 1
  have f2 := blk_frozen hcell 2
  have HC := Lib.hid hcell
  clear hcell
  go_wp2_with fail
  refine bodyPost_ret (v := .agg (entCells (rent r).1)) (results_cell_row (P := Try.prog) (p := 2) (ty := 34) rfl _ _ w.heap.size 34 _ (0, 0) _ rfl (blk_set3 HC.out _ _ _) Try.underlying34 rfl (by kernel_rfl)) rfl ⟨rfl, ?_, ?_⟩
  · exact rd_other (rd_other (rd_other H3.out (by show b ≠ w.heap.size; omega) _) (by show b ≠ w.heap.size; omega) _) (by show b ≠ w.heap.size; omega) _
  · have h := ((but_of_below (Below.refl _ w) b).alloc (Nat.le_refl _) (.cells #[.int .u64 0, .int .u64 0, .string ⟨#[]⟩] 34)).trans (G3.out.mono (B' := w.heap.size) (by simp))
    exact ((h.setNew (p := ⟨w.heap.size, 0, none⟩) (Nat.le_refl _) _).setNew (p := ⟨w.heap.size, 1, none⟩) (Nat.le_refl _) _).setNew (p := ⟨w.heap.size, 2, none⟩) (Nat.le_refl _) _
set_option maxHeartbeats 400000 in
theorem refEntry_any (r : Rd) (b : Nat) (w : World) (hb : IsRr w b r) (hl : (r.getD []).length ≤ 1000000) :
    Calls Try.prog 42 #[.pointer (some ⟨b, 0, none⟩)] w fun e w' => e = .returned (.agg (entCells (rent r).1)) ∧ IsRr w' b (rent r).2 ∧ But w.heap.size b w w' := by
  have hlt := blk_lt hb
  have l1 := rnum_length r
  have l2 := rnum_length (rnum r).2
  have HB := Lib.hid hb
  clear hb
  go_enter Try.func42, Try.ntmps42
  go_wp2_with fail
  refine (refNum_any r b _ (blk_alloc HB.out _) hl).mono ?_
  rintro e w1 ⟨rfl, hr1, hb1⟩
  have H1 := Lib.hid hr1
  have G1 := Lib.hid hb1
  have hs1 := hb1.size
  simp only [World.size_alloc] at hs1
  clear hr1 hb1
  go_wp2_with fail
  refine (refNum_any _ b _ (blk_alloc H1.out _) (by omega)).mono ?_
  rintro e w2 ⟨rfl, hr2, hb2⟩
  have hg0 := blk_but G1.out (c := w.heap.size) (by simp) (by omega) (blk_new w (.cells #[.int .u64 0, .int .u64 0, .string ⟨#[]⟩] 34))
  have hg2 := blk_but hb2 (c := w1.heap.size) (by simp) (by omega) (blk_new w1 (.cells #[.int .u64 ((rnum r).1 : Int), .int .u64 0, .string ⟨#[]⟩] 34))
  have hg0' := blk_but hb2 (c := w.heap.size) (by simp; omega) (by omega) (blk_alloc hg0 _)
  have hs2 := hb2.size
  simp only [World.size_alloc] at hs2
  have H2 := Lib.hid hr2
  have G2 := Lib.hid hb2
  have c1 := blk_cell hg2 1
  have f1 := blk_frozen hg2 1
  have K0 := Lib.hid hg0'
  have K2 := Lib.hid hg2
  clear hr2 hb2 hg0 hg2 hg0'
  go_wp2_with fail
  refine (refText_any _ b _ (blk_other H2.out (by show b ≠ w1.heap.size; omega) _) (by omega)).mono ?_
  rintro e w3 ⟨rfl, hr3, hb3⟩
  have hg2 := blk_but hb3 (c := w1.heap.size) (by rw [size_set]; omega) (by omega) (blk_set K2.out 1 _)
  have hg0 := blk_but hb3 (c := w.heap.size) (by rw [size_set]; omega) (by omega) (blk_other K0.out (by show w.heap.size ≠ w1.heap.size; omega) _)
  have H3 := Lib.hid hr3
  have G3 := Lib.hid hb3
  have c2 := blk_cell hg2 2
  have c1' := blk_cell hg2 1
  have c0' := blk_cell hg2 0
  have f2 := blk_frozen hg2 2
  have d0 := blk_cell hg0 0
  have d1 := blk_cell hg0 1
  have d2 := blk_cell hg0 2
  have e0 := blk_frozen hg0 0
  have e1 := blk_frozen hg0 1
  have e2 := blk_frozen hg0 2
  have hnn : w1.heap.size ≠ w.heap.size := by omega
  have hnn' : w.heap.size ≠ w1.heap.size := by omega
  have K0 := Lib.hid hg0
  have K2 := Lib.hid hg2
  clear hr3 hb3 hg0 hg2
  go_wp2_with fail
  refine bodyPost_ret (v := .agg (entCells (rent r).1)) (results_cell_row (P := Try.prog) (p := 2) (ty := 34) rfl _ _ w.heap.size 34 _ (0, 0) _ rfl (blk_set3 (blk_other K0.out hnn' _) _ _ _) Try.underlying34 rfl (by kernel_rfl)) rfl ⟨rfl, ?_, ?_⟩
  · exact blk_other (blk_other (blk_other (blk_other H3.out (by show b ≠ w1.heap.size; omega) _) (by show b ≠ w.heap.size; omega) _) (by show b ≠ w.heap.size; omega) _) (by show b ≠ w.heap.size; omega) _
  · have h1 := ((but_of_below (Below.refl _ w) b).alloc (Nat.le_refl _) (.cells #[.int .u64 0, .int .u64 0, .string ⟨#[]⟩] 34)).trans (G1.out.mono (B' := w.heap.size) (by simp))
    have h2 := (h1.alloc (by omega) (.cells #[.int .u64 ((rnum r).1 : Int), .int .u64 0, .string ⟨#[]⟩] 34)).trans (G2.out.mono (B' := w.heap.size) (by simp; omega))
    have h3 := (h2.setNew (p := ⟨w1.heap.size, 1, none⟩) (by show w.heap.size ≤ w1.heap.size; omega) (.int .u64 ((rnum (rnum r).2).1 : Int))).trans (G3.out.mono (B' := w.heap.size) (by rw [size_set]; omega))
    exact (((h3.setNew (p := ⟨w1.heap.size, 2, none⟩) (by show w.heap.size ≤ w1.heap.size; omega) _).setNew (p := ⟨w.heap.size, 0, none⟩) (Nat.le_refl _) _).setNew (p := ⟨w.heap.size, 1, none⟩) (Nat.le_refl _) _).setNew (p := ⟨w.heap.size, 2, none⟩) (Nat.le_refl _) _
/-- what GetEntry hands back -/
def getE (s : Bs) : Ent × Int := if rend (rent (some s)).2 then ((rent (some s)).1, 0) else (⟨0, 0, []⟩, 4)
def getV (s : Bs) : Value := .tuple #[.agg (entCells (getE s).1), .int .i64 (getE s).2]
set_option maxHeartbeats 400000 in
theorem getEntry_any (s : Bs) (w : World) (hl : s.length ≤ 1000000) :
    Calls Try.prog 16 #[.string (bs s)] w fun e w' => e = .returned (getV s) ∧ Below w.heap.size w w' := by
  obtain ⟨res, hres⟩ : ∃ res, getV s = res := ⟨_, rfl⟩
  rw [hres]
  have HR := Lib.hid hres
  clear hres
  go_enter Try.func16, Try.ntmps16
  go_wp2_with fail
  refine (newReader_any s _).mono ?_
  rintro e w1 ⟨rfl, hr1, hs1, hb1⟩
  simp only [World.size_alloc] at hr1 hs1 hb1 ⊢
  have hg := blk_below hb1 (b := w.heap.size) (by omega) (blk_new w (.cells #[.int .u64 0, .int .u64 0, .string ⟨#[]⟩] 34))
  have K1 := Lib.hid hg
  have H1 := Lib.hid hr1
  have G1 := Lib.hid hb1
  clear hg hr1 hb1
  go_wp2_with fail
  refine (entry_any (some s) (w.heap.size + 1) _ H1.out hl).mono ?_
  rintro e w2 ⟨rfl, hr2, hb2⟩
  have hg := blk_but hb2 (c := w.heap.size) (by omega) (by omega) K1.out
  have hs2 := hb2.size
  have K2 := Lib.hid hg
  have H2 := Lib.hid hr2
  have G2 := Lib.hid (hb2.mono (B' := w.heap.size) (by omega) |>.below (by omega))
  clear hg hr2 hb2
  obtain ⟨ent, hent⟩ : ∃ ent, (rent (some s)).1 = ent := ⟨_, rfl⟩
  rw [hent]
  have HE := Lib.hid hent
  clear hent
  have hEC : entCells ent = #[.int .u64 (ent.t : Int), .int .u64 (ent.i : Int), .string (bs ent.d)] := rfl
  rw [hEC]
  clear hEC
  go_wp2_with fail
  refine (end_any _ (w.heap.size + 1) _ (rd_alloc H2.out _)).mono ?_
  rintro e w3 ⟨rfl, rfl⟩
  have hg := blk_alloc K2.out (.cells #[.int .u64 (ent.t : Int), .int .u64 (ent.i : Int), .string (bs ent.d)] 34)
  have hn := blk_new w2 (.cells #[.int .u64 (ent.t : Int), .int .u64 (ent.i : Int), .string (bs ent.d)] 34)
  have d0 := blk_cell hg 0
  have d1 := blk_cell hg 1
  have d2 := blk_cell hg 2
  have e0 := blk_frozen hg 0
  have e1 := blk_frozen hg 1
  have e2 := blk_frozen hg 2
  have n0 := blk_cell hn 0
  have n1 := blk_cell hn 1
  have n2 := blk_cell hn 2
  have K3 := Lib.hid hg
  have hB : Hid (Below w.heap.size w (w2.alloc (.cells #[.int .u64 (ent.t : Int), .int .u64 (ent.i : Int), .string (bs ent.d)] 34))) :=
    ((((Below.refl _ w).alloc (Nat.le_refl _) (.cells #[.int .u64 0, .int .u64 0, .string ⟨#[]⟩] 34)).trans (G1.out.mono (by omega))).trans G2.out).alloc (by omega) _
  clear hg hn
  generalize w2.alloc (.cells #[.int .u64 (ent.t : Int), .int .u64 (ent.i : Int), .string (bs ent.d)] 34) = w3 at *
  cases he : rend (rent (some s)).2
  · have hfin : getV s = .tuple #[.agg #[.int .u64 0, .int .u64 0, .string (bs [])], .int .i64 4] := by
      unfold getV getE
      rw [if_neg (by rw [he]; exact Bool.false_ne_true)]; rfl
    rw [HR.out] at hfin
    have HF := Lib.hid hfin
    clear hfin
    go_wp2_with fail
    rw [HF.out]
    exact bodyPost_ret (results_row_tmp (P := Try.prog) (p := 2) (u := 3) (ty := 34) rfl _ _ w.heap.size 34 _ (0, 0) _ _ rfl (blk_set3 K3.out _ _ _) Try.underlying34 rfl (by kernel_rfl) rfl) rfl
      ⟨rfl, ((hB.out.setCell (p := ⟨w.heap.size, 0, none⟩) (Nat.le_refl _) _).setCell (p := ⟨w.heap.size, 1, none⟩) (Nat.le_refl _) _).setCell (p := ⟨w.heap.size, 2, none⟩) (Nat.le_refl _) _⟩
  · have hfin : getV s = .tuple #[.agg (entCells ent), .int .i64 0] := by
      unfold getV getE
      rw [if_pos he, HE.out]
    rw [HR.out] at hfin
    have HF := Lib.hid hfin
    clear hfin
    go_wp2_with fail
    rw [HF.out]
    exact bodyPost_ret (results_row_tmp (P := Try.prog) (p := 2) (u := 3) (ty := 34) rfl _ _ w.heap.size 34 _ (0, 0) _ _ rfl (blk_set3 K3.out _ _ _) Try.underlying34 rfl (by kernel_rfl) rfl) rfl
      ⟨rfl, ((hB.out.setCell (p := ⟨w.heap.size, 0, none⟩) (Nat.le_refl _) _).setCell (p := ⟨w.heap.size, 1, none⟩) (Nat.le_refl _) _).setCell (p := ⟨w.heap.size, 2, none⟩) (Nat.le_refl _) _⟩
set_option maxHeartbeats 400000 in
theorem refGetEntry_any (s : Bs) (w : World) (hl : s.length ≤ 1000000) :
    Calls Try.prog 17 #[.string (bs s)] w fun e w' => e = .returned (getV s) ∧ Below w.heap.size w w' := by
  obtain ⟨res, hres⟩ : ∃ res, getV s = res := ⟨_, rfl⟩
  rw [hres]
  have HR := Lib.hid hres
  clear hres
  go_enter Try.func17, Try.ntmps17
  obtain ⟨w1, hw1⟩ : ∃ w1, (w.alloc (.cells #[.int .u64 0, .int .u64 0, .string ⟨#[]⟩] 34)).alloc (.cells (rdCells (some s)) 65) = w1 := ⟨_, rfl⟩
  have hs1 : w1.heap.size = w.heap.size + 1 + 1 := by rw [← hw1]; simp
  have hr1 : IsRr w1 (w.heap.size + 1) (some s) := by
    rw [← hw1]
    have := blk_new (w.alloc (.cells #[.int .u64 0, .int .u64 0, .string ⟨#[]⟩] 34)) (.cells (rdCells (some s)) 65)
    rw [World.size_alloc] at this
    exact this
  have hg : w1.heap[w.heap.size]? = some (.cells #[.int .u64 0, .int .u64 0, .string ⟨#[]⟩] 34) := by
    rw [← hw1]; exact blk_alloc (blk_new _ _) _
  have G1 : Hid (Below w.heap.size w w1) := by
    rw [← hw1]; exact ((Below.refl _ w).alloc (Nat.le_refl _) _).alloc (by simp) _
  have K1 := Lib.hid hg
  have H1 := Lib.hid hr1
  have HW := Lib.hid hw1
  clear hg hr1 hw1
  go_wp2_with fail
  change Calls Try.prog 42 #[.pointer (some ⟨w.heap.size + 1, 0, none⟩)] ((w.alloc (.cells #[.int .u64 0, .int .u64 0, .string ⟨#[]⟩] 34)).alloc (.cells (rdCells (some s)) 65)) _
  rw [HW.out]
  refine (refEntry_any (some s) (w.heap.size + 1) _ H1.out hl).mono ?_
  rintro e w2 ⟨rfl, hr2, hb2⟩
  have hg := blk_but hb2 (c := w.heap.size) (by omega) (by omega) K1.out
  have hs2 := hb2.size
  have K2 := Lib.hid hg
  have H2 := Lib.hid hr2
  have G2 := Lib.hid (hb2.mono (B' := w.heap.size) (by omega) |>.below (by omega))
  clear hg hr2 hb2
  obtain ⟨ent, hent⟩ : ∃ ent, (rent (some s)).1 = ent := ⟨_, rfl⟩
  rw [hent]
  have HE := Lib.hid hent
  clear hent
  have hEC : entCells ent = #[.int .u64 (ent.t : Int), .int .u64 (ent.i : Int), .string (bs ent.d)] := rfl
  rw [hEC]
  clear hEC
  go_wp2_with fail
  refine (refEnd_any _ (w.heap.size + 1) _ (blk_alloc H2.out _)).mono ?_
  rintro e w3 ⟨rfl, rfl⟩
  have hg := blk_alloc K2.out (.cells #[.int .u64 (ent.t : Int), .int .u64 (ent.i : Int), .string (bs ent.d)] 34)
  have hn := blk_new w2 (.cells #[.int .u64 (ent.t : Int), .int .u64 (ent.i : Int), .string (bs ent.d)] 34)
  have d0 := blk_cell hg 0
  have d1 := blk_cell hg 1
  have d2 := blk_cell hg 2
  have e0 := blk_frozen hg 0
  have e1 := blk_frozen hg 1
  have e2 := blk_frozen hg 2
  have n0 := blk_cell hn 0
  have n1 := blk_cell hn 1
  have n2 := blk_cell hn 2
  have K3 := Lib.hid hg
  have hB : Hid (Below w.heap.size w (w2.alloc (.cells #[.int .u64 (ent.t : Int), .int .u64 (ent.i : Int), .string (bs ent.d)] 34))) :=
    (G1.out.trans G2.out).alloc (by omega) _
  clear hg hn
  generalize w2.alloc (.cells #[.int .u64 (ent.t : Int), .int .u64 (ent.i : Int), .string (bs ent.d)] 34) = w3 at *
  cases he : rend (rent (some s)).2
  · have hfin : getV s = .tuple #[.agg #[.int .u64 0, .int .u64 0, .string (bs [])], .int .i64 4] := by
      unfold getV getE
      rw [if_neg (by rw [he]; exact Bool.false_ne_true)]; rfl
    rw [HR.out] at hfin
    have HF := Lib.hid hfin
    clear hfin
    go_wp2_with fail
    rw [HF.out]
    exact bodyPost_ret (results_row_tmp (P := Try.prog) (p := 2) (u := 3) (ty := 34) rfl _ _ w.heap.size 34 _ (0, 0) _ _ rfl (blk_set3 K3.out _ _ _) Try.underlying34 rfl (by kernel_rfl) rfl) rfl
      ⟨rfl, ((hB.out.setCell (p := ⟨w.heap.size, 0, none⟩) (Nat.le_refl _) _).setCell (p := ⟨w.heap.size, 1, none⟩) (Nat.le_refl _) _).setCell (p := ⟨w.heap.size, 2, none⟩) (Nat.le_refl _) _⟩
  · have hfin : getV s = .tuple #[.agg (entCells ent), .int .i64 0] := by
      unfold getV getE
      rw [if_pos he, HE.out]
    rw [HR.out] at hfin
    have HF := Lib.hid hfin
    clear hfin
    go_wp2_with fail
    rw [HF.out]
    exact bodyPost_ret (results_row_tmp (P := Try.prog) (p := 2) (u := 3) (ty := 34) rfl _ _ w.heap.size 34 _ (0, 0) _ _ rfl (blk_set3 K3.out _ _ _) Try.underlying34 rfl (by kernel_rfl) rfl) rfl
      ⟨rfl, ((hB.out.setCell (p := ⟨w.heap.size, 0, none⟩) (Nat.le_refl _) _).setCell (p := ⟨w.heap.size, 1, none⟩) (Nat.le_refl _) _).setCell (p := ⟨w.heap.size, 2, none⟩) (Nat.le_refl _) _⟩
end Go.Proofs.Ytdemkcnhcgiheaa
