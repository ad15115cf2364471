/- Package crc: a range over the bits of a byte, as one step of a register for each. Condition: a byte is below 256. -/
import Derived.Test.YtdemkcnhcgiheaaE
namespace Go.Proofs.Ytdemkcnhcgiheaa
open Go.RowKit Go.Shelf
attribute [local go_sem] Oper.semAt_some
def regV (R : Reg) : Value := .int .u32 (R.toNat : Int)
/-- in the midst of a range over a byte's bits -/
structure Mid (w W : World) (rB Bn : Nat) (R : Reg) (x : Nat) : Prop where
  os : W.os = w.os
  tape : W.tape = w.tape
  output : W.output = w.output
  size : w.heap.size ≤ W.heap.size
  keep : ∀ j, j < w.heap.size → j ≠ rB → j ≠ Bn → W.heap[j]? = w.heap[j]?
  r : W.heap[rB]? = some (.cells #[regV R] 46 (0, 0))
  b : W.heap[Bn]? = some (.cells #[.int .u8 (x : Int)] 5 (0, 0))
theorem putObj_size (W : World) (j : Nat) (o : Obj) : (W.putObj j o).heap.size = W.heap.size := by simp [World.putObj]
theorem putObj_other (W : World) (i j : Nat) (o : Obj) (h : i ≠ j) : (W.putObj j o).heap[i]? = W.heap[i]? := by
  simp only [World.putObj, Array.getElem?_setIfInBounds]
  rw [if_neg (by omega)]
theorem putObj_same (W : World) (j : Nat) (o o' : Obj) (h : W.heap[j]? = some o') : (W.putObj j o).heap[j]? = some o := by
  simp only [World.putObj, Array.getElem?_setIfInBounds, if_true]
  rw [if_pos (blk_lt h)]
theorem Mid.put {w W : World} {rB Bn x : Nat} {R : Reg} (h : Mid w W rB Bn R x) {j : Nat} (hj : w.heap.size ≤ j) (hr : rB < w.heap.size) (hb : Bn < w.heap.size) (o : Obj) : Mid w (W.putObj j o) rB Bn R x :=
  ⟨h.os, h.tape, h.output, by rw [putObj_size]; exact h.size, fun i hi h1 h2 => by rw [putObj_other _ _ _ _ (by omega)]; exact h.keep i hi h1 h2,
    by rw [putObj_other _ _ _ _ (by omega)]; exact h.r, by rw [putObj_other _ _ _ _ (by omega)]; exact h.b⟩
theorem Mid.setR {w W : World} {rB Bn x : Nat} {R : Reg} (h : Mid w W rB Bn R x) (hne : rB ≠ Bn) (Q : Reg) : Mid w (W.setCell ⟨rB, 0, none⟩ (regV Q)) rB Bn Q x :=
  ⟨h.os, h.tape, h.output, by rw [size_set]; exact h.size, fun i hi h1 h2 => by rw [Below.heap_setCell _ _ _ _ h1]; exact h.keep i hi h1 h2,
    blk_set h.r 0 _, blk_other h.b (fun e => hne e.symm) _⟩
theorem Mid.setB {w W : World} {rB Bn x : Nat} {R : Reg} (h : Mid w W rB Bn R x) (hne : rB ≠ Bn) (y : Nat) : Mid w (W.setCell ⟨Bn, 0, none⟩ (.int .u8 (y : Int))) rB Bn R y :=
  ⟨h.os, h.tape, h.output, by rw [size_set]; exact h.size, fun i hi h1 h2 => by rw [Below.heap_setCell _ _ _ _ h2]; exact h.keep i hi h1 h2,
    blk_other h.r hne _, blk_set h.b 0 _⟩
/-- the register behind a byte's first k bits -/
def regAt (c k : Nat) : Reg := bitsIn 0 ((List.range k).map fun i => c.testBit i)
theorem regAt_succ (c k : Nat) : regAt c (k + 1) = bitIn (regAt c k) (c.testBit k) := by
  simp only [regAt, List.range_succ, List.map_append, List.map_cons, List.map_nil, bitsIn_append]; rfl
theorem regAt_all (c : Nat) (h : c < 256) : regAt c 8 = tab (UInt8.ofNat c) := by
  unfold regAt tab byteIn bitsOf
  rw [ofNat_toNat_of_lt h]
theorem setCell_heap_ne (W : World) (a : Addr) (v : Value) (j : Nat) (h : j ≠ a.block) : (W.setCell a v).heap[j]? = W.heap[j]? := Below.heap_setCell _ _ _ _ h
theorem range_law {g : Operand} {ps : Array Tmp} {assign body : Code} {Q : Exit → Act → World → Prop} {a : Act} {w : World} {n : Nat} (hn : 2 ≤ n) (c : Nat) (hc : c < 256) (rB Bn : Nat)
    (hrB : rB < w.heap.size) (hBn : Bn < w.heap.size) (hne : rB ≠ Bn) (hr : w.heap[rB]? = some (.cells #[regV 0] 46 (0, 0))) (hb : w.heap[Bn]? = some (.cells #[.int .u8 (c : Int)] 5 (0, 0)))
    (hg : a.eval g = .func (.func 66) #[] #[.pointer (some ⟨Bn, 0, none⟩)]) (hps : ps.size = 1) (a₁ : Value → Act)
    (hassign : ∀ (l : Nat) (v : Value) (W : World) (K : Act → World → Prop), K (a₁ v) W →
      assign.wpIn (Fence.wide.inRound l) (n - 1 - 1) Try.prog (Exit.then K (fun _ _ _ => False)) { tmps := (ps.zip #[v]).foldl (fun t (p, v) => t.setIfInBounds p v) a.tmps, defers := [] } W)
    (hbody : ∀ (l : Nat) (R : Reg) (b : Bool) (W : World), W.heap[rB]? = some (.cells #[regV R] 46 (0, 0)) →
      body.wpIn (Fence.wide.inRound l) (n - 1 - 1) Try.prog (fun e _ W' => e = .normal ∧ W' = W.setCell ⟨rB, 0, none⟩ (regV (bitIn R b))) (a₁ (.int .u32 (b.toNat : Int))) W)
    (hQ : ∀ W, Mid w W rB Bn (tab (UInt8.ofNat c)) 0 → W.heap[w.heap.size]? = some (.deferred (some [])) → Q .normal { a with defers := { target := .collected w.heap.size, args := #[] } :: a.defers } W) :
    (Code.rangeFunc g ps assign body).wpIn Fence.wide n Try.prog Q a w := by
  refine wpIn_rangeFunc ?_
  intro fn hfn
  obtain ⟨rec, hrec⟩ : ∃ rec : LoopState → Option Code → Loop, rec = fun st pe => { state := st, pending := pe, fn, tmps := a.tmps, params := ps, assign, body, defers := w.heap.size } := ⟨_, rfl⟩
  obtain ⟨W1, hW1⟩ : ∃ W1, (w.alloc (.deferred (some []))).alloc (.loop (rec .ready none)) = W1 := ⟨_, rfl⟩
  have hL1 : W1.heap[w.heap.size + 1]? = some (.loop (rec .ready none)) := by
    rw [← hW1]; have := World.alloc_heap_new (w.alloc (.deferred (some []))) (.loop (rec .ready none)); rwa [World.size_alloc] at this
  have hK1 : W1.heap[w.heap.size]? = some (.deferred (some [])) := by
    rw [← hW1]; exact (Below.heap_alloc _ _ _ (by simp)).trans (World.alloc_heap_new w _)
  have hkeep1 : ∀ j, j < w.heap.size → W1.heap[j]? = w.heap[j]? := by
    intro j hj
    rw [← hW1, Below.heap_alloc _ _ _ (by simp; omega), Below.heap_alloc _ _ _ hj]
  have hM1 : Mid w W1 rB Bn (regAt c 0) c := by
    refine ⟨by rw [← hW1]; rfl, by rw [← hW1]; rfl, by rw [← hW1]; rfl, by rw [← hW1]; simp; omega, fun j hj _ _ => hkeep1 j hj, ?_, ?_⟩
    · rw [hkeep1 _ hrB]; exact hr
    · rw [hkeep1 _ hBn]; exact hb
  refine ⟨w.heap.size + 1, [{ target := .collected w.heap.size, args := #[] }], W1, { target := .fn (.func 66) #[.pointer (some ⟨Bn, 0, none⟩)], args := #[.func (.yield (w.heap.size + 1)) #[] #[]] }, W1, 66,
    #[.func (.yield (w.heap.size + 1)) #[] #[], .pointer (some ⟨Bn, 0, none⟩)], W1, ?_, ?_, ?_, ?_, fun _ => by omega, ?_⟩
  · rw [← hW1, hrec]; exact run_enterLoop_outer _ _ _ _ _
  · simp only [resolve, hg]
    simp [go_sem]
  · intro f' _; trivial
  · simp [invoke, go_sem]
  · refine (bits1_in (n - 1) (w.heap.size + 1) Bn (by omega) c hc
      (fun k W => Mid w W rB Bn (regAt c k) (c / 2 ^ k) ∧ W.heap[w.heap.size + 1]? = some (.loop (rec .ready none)) ∧ W.heap[w.heap.size]? = some (.deferred (some [])))
      (fun k W => Mid w W rB Bn (regAt c (k + 1)) (c / 2 ^ k) ∧ W.heap[w.heap.size + 1]? = some (.loop (rec .ready none)) ∧ W.heap[w.heap.size]? = some (.deferred (some [])))
      ?_ ?_ ?_ W1 ⟨by simpa using hM1, hL1, hK1⟩).mono ?_
    · rintro k W hk ⟨hm, hl, hd⟩
      have hlt : w.heap.size + 1 < W.heap.size := blk_lt hl
      have hy := run_yield (P := Try.prog) (args := #[.int .u32 ((c / 2 ^ k % 2 : Nat) : Int)]) hl (by rw [hrec]; exact hps.symm)
      rw [hrec] at hy
      refine ⟨fn, _, assign, body, hy, roundIn_of_wpIn trivial (hassign _ _ W _ ⟨_, run_beginRound hl (by rw [hrec]), ?_⟩)⟩
      have hb := hbody (w.heap.size + 1) (regAt c k) (c.testBit k) (W.putObj (w.heap.size + 1) (.loop { rec .ready none with state := .busy })) (by rw [putObj_other _ _ _ _ (by omega)]; exact hm.r)
      rw [Nat.toNat_testBit] at hb
      refine wpIn_mono hb ?_
      rintro e a3 W3 ⟨rfl, rfl⟩
      have hm2 := ((hm.put (j := w.heap.size + 1) (by omega) hrB hBn (.loop { rec .ready none with state := .busy })).setR hne (bitIn (regAt c k) (c.testBit k)))
      have hl2 : ((W.putObj (w.heap.size + 1) (.loop { rec .ready none with state := .busy })).setCell ⟨rB, 0, none⟩ (regV (bitIn (regAt c k) (c.testBit k)))).heap[w.heap.size + 1]? = some (.loop { rec .ready none with state := .busy }) := by
        rw [setCell_heap_ne _ _ _ _ (show w.heap.size + 1 ≠ rB by omega)]; exact putObj_same _ _ _ _ hl
      have hd2 : ((W.putObj (w.heap.size + 1) (.loop { rec .ready none with state := .busy })).setCell ⟨rB, 0, none⟩ (regV (bitIn (regAt c k) (c.testBit k)))).heap[w.heap.size]? = some (.deferred (some [])) := by
        rw [setCell_heap_ne _ _ _ _ (show w.heap.size ≠ rB by omega), putObj_other _ _ _ _ (by omega)]; exact hd
      refine ⟨_, _, run_endRound none hl2, rfl, ?_, ?_, ?_⟩
      · rw [regAt_succ]; exact hm2.put (by omega) hrB hBn _
      · have := putObj_same _ (w.heap.size + 1) (.loop { rec .ready none with state := .ready, pending := none }) _ hl2
        rw [hrec] at this ⊢
        exact this
      · rw [putObj_other _ _ _ _ (by omega)]; exact hd2
    · rintro k W ⟨hm, _, _⟩; exact blk_cell hm.b 0
    · rintro k W ⟨hm, hl, hd⟩
      refine ⟨blk_cell hm.b 0, blk_frozen hm.b 0, hm.setB hne _, ?_, ?_⟩
      · rw [setCell_heap_ne _ _ _ _ (show w.heap.size + 1 ≠ Bn by omega)]; exact hl
      · rw [setCell_heap_ne _ _ _ _ (show w.heap.size ≠ Bn by omega)]; exact hd
    · rintro e W2 ⟨⟨v, rfl⟩, hm, hl, hd⟩
      refine ⟨none, _, by have := run_endLoop (P := Try.prog) hl (by rw [hrec]; simp); rw [hrec] at this; exact this, hQ _ ?_ ?_⟩
      · have := hm.put (j := w.heap.size + 1) (by omega) hrB hBn (.loop { state := .exhausted, pending := none, fn, tmps := a.tmps, params := ps, assign, body, defers := w.heap.size })
        rw [regAt_all c hc, Nat.div_eq_of_lt (show c < 2 ^ 8 from hc)] at this
        exact this
      · rw [putObj_other _ _ _ _ (by omega)]; exact hd
end Go.Proofs.Ytdemkcnhcgiheaa
