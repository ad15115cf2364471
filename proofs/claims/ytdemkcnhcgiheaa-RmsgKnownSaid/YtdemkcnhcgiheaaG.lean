/- Package crc: the table of 256 registers, made by ranges over the bits of each byte. No condition. -/
import Derived.Test.YtdemkcnhcgiheaaF
namespace Go.Proofs.Ytdemkcnhcgiheaa
open Go.RowKit Go.Shelf
attribute [local go_sem] Oper.semAt_some
theorem reg_step (R : Reg) (b : Bool) : bits .xor .u32 ((R.toNat : Int) / 2) (2197175160 * bits .and .u32 (bits .xor .u32 (R.toNat : Int) (b.toNat : Int)) 1 % 4294967296) = ((bitIn R b).toNat : Int) := by
  have hR := R.isLt
  have hb : b.toNat < 4294967296 := by cases b <;> decide
  have hx : (R.toNat ^^^ b.toNat) = (R ^^^ ofBit b).toNat := by
    rw [BitVec.toNat_xor]
    congr 1
    cases b <;> rfl
  rw [u32_xor_nat _ _ hR hb, hx, show (1 : Int) = ((1 : Nat) : Int) from rfl, u32_and_nat _ _ (R ^^^ ofBit b).isLt (by decide), Nat.and_one_is_mod]
  have ht : (R ^^^ ofBit b).toNat % 2 = ((R ^^^ ofBit b).getLsbD 0).toNat := by
    rw [BitVec.getLsbD, Nat.toNat_testBit]; simp
  rw [ht]
  have hs : (R ^^^ ofBit b) >>> 1 = R >>> 1 := by
    rw [BitVec.ushiftRight_xor_distrib]
    cases b <;> simp [ofBit]
  have hd : (R.toNat : Int) / (2 : Int) = ((R >>> 1).toNat : Int) := by
    rw [BitVec.toNat_ushiftRight, Nat.shiftRight_eq_div_pow]; omega
  rw [hd]
  unfold bitIn stp
  rw [hs]
  cases (R ^^^ ofBit b).getLsbD 0
  · have := u32_xor_nat (R >>> 1).toNat 0 (R >>> 1).isLt (by decide)
    simpa using this
  · have := u32_xor_nat (R >>> 1).toNat 2197175160 (R >>> 1).isLt (by decide)
    have e : ((2197175160 : Int) * ((true.toNat : Nat) : Int) % 4294967296) = ((2197175160 : Nat) : Int) := by decide
    rw [e, this, if_pos rfl, BitVec.toNat_xor]
    rfl
/-- the table, its first k cells filled -/
def tabCells (k : Nat) : Array Value := ((List.range 256).map fun i => if i < k then regV (tab (UInt8.ofNat i)) else regV 0).toArray
theorem tabCells_size (k : Nat) : (tabCells k).size = 256 := by simp [tabCells]
theorem tabCells_get (k i : Nat) (h : i < 256) : (tabCells k)[i]? = some (if i < k then regV (tab (UInt8.ofNat i)) else regV 0) := by simp [tabCells, h]
theorem tabCells_zero : tabCells 0 = Array.replicate 256 (regV 0) := by
  apply Array.ext
  · simp [tabCells_size]
  · intro i h1 h2
    simp [tabCells]
theorem tabCells_succ (k : Nat) : (tabCells k).setIfInBounds k (regV (tab (UInt8.ofNat k))) = tabCells (k + 1) := by
  apply Array.ext
  · simp [tabCells]
  · intro i h1 h2
    have hi : i < 256 := by simpa [tabCells] using h2
    rw [Array.getElem_setIfInBounds (by rw [tabCells_size]; exact hi)]
    simp only [tabCells, List.getElem_toArray, List.getElem_map, List.getElem_range]
    by_cases h : i = k
    · subst h; simp
    · have : (i < k + 1) ↔ (i < k) := by omega
      simp only [this, if_neg (fun e : k = i => h e.symm)]
def markAt (D : Nat) : Deferred := { target := .collected D, args := #[] }
structure Marks (W : World) (T : Nat) (ds : List Nat) : Prop where
  nodup : ds.Nodup
  above : ∀ D ∈ ds, T < D
  at_ : ∀ D ∈ ds, W.heap[D]? = some (.deferred (some []))
theorem leaves_marks (n T : Nat) (cs : Array Value) (hcs : cs.size = 256) (tmps : Array Value) (hp : tmps.getD 0 undef = .pointer (some ⟨T, 0, none⟩)) (R : Ending → World → Prop) (w : World)
    (hR : ∀ W, Below T w W → R (.returned (.agg cs)) W) : ∀ (ds : List Nat) (W : World), Marks W T ds → W.heap[T]? = some (.cells cs 86 (0, 0)) → Below T w W →
      LeavesInM Fence.wide n Try.prog Try.f63 tmps R (ds.map markAt) .returning W
  | [], W, _, hT, hb => ⟨_, results_cell_row (P := Try.prog) (p := 0) (ty := 86) rfl tmps W T 86 cs (0, 0) _ hp hT Try.underlying86 rfl (by rw [hcs]; kernel_rfl), hR W hb⟩
  | D :: ds, W, hm, hT, hb => by
    have hD := hm.above D (by simp)
    refine ⟨by simp, .inl ⟨D, _, rfl, run_takeDeferred (hm.at_ D (by simp)), ?_⟩⟩
    refine leaves_marks n T cs hcs tmps hp R w hR ds _ ⟨(List.nodup_cons.1 hm.nodup).2, fun E hE => hm.above E (by simp [hE]), fun E hE => ?_⟩ ?_ ?_
    · have : E ≠ D := fun e => (List.nodup_cons.1 hm.nodup).1 (e ▸ hE)
      rw [putObj_other _ _ _ _ this]; exact hm.at_ E (by simp [hE])
    · rw [putObj_other _ _ _ _ (by omega)]; exact hT
    · exact hb.trans ⟨rfl, rfl, rfl, by rw [putObj_size]; exact Nat.le_refl _, fun k hk => putObj_other _ _ _ _ (by omega)⟩
def TabInv (w : World) (a : Act) (W : World) : Prop :=
  ∃ (k : Nat) (ds : List Nat) (u1 u2 u3 u4 u6 u7 u8 u9 u10 u11 u12 u13 u14 u15 u16 u17 u18 u19 u20 u21 u22 u23 u24 u25 : Value), k ≤ 256 ∧
    a = { tmps := #[.pointer (some ⟨w.heap.size, 0, none⟩), u1, u2, u3, u4, .int .i64 k, u6, u7, u8, u9, u10, u11, u12, u13, u14, u15, u16, u17, u18, u19, u20, u21, u22, u23, u24, u25], defers := ds.map markAt } ∧
    W.heap[w.heap.size]? = some (.cells (tabCells k) 86 (0, 0)) ∧ Marks W w.heap.size ds ∧ Below w.heap.size w W
set_option maxHeartbeats 400000 in
set_option maxRecDepth 100000 in
theorem table_any (w : World) : Calls Try.prog 63 #[] w fun e w' => e = .returned (.agg (tabCells 256)) ∧ Below w.heap.size w w' := by
  refine (callsIn_wide (n := 4)).1 ?_
  refine callsIn_of_wp_marks Try.func63 rfl trivial ?_ rfl
  simp only [Try.ntmps63, List.size_toArray, List.length_nil, Nat.reduceSub, Array.replicate_succ, Array.replicate_zero, List.push_toArray, List.append_toArray, List.nil_append, List.cons_append]
  gi_wp2
  refine wpIn_loop (TabInv w) (fun a _ => 257 - (intOf (a.tmps.getD 5 undef)).toNat) ?start ?round
  case start =>
    exact ⟨0, [], undef, undef, undef, undef, undef, undef, undef, undef, undef, undef, undef, undef, undef, undef, undef, undef, undef, undef, undef, undef, undef, undef, undef, undef, by omega, rfl, by rw [tabCells_zero]; exact blk_new _ _, ⟨List.nodup_nil, by simp, by simp⟩, (Below.refl _ _).alloc (Nat.le_refl _) _⟩
  case round =>
    rintro a W ⟨k, ds, u1, u2, u3, u4, u6, u7, u8, u9, u10, u11, u12, u13, u14, u15, u16, u17, u18, u19, u20, u21, u22, u23, u24, u25, hk, rfl, hT, hM, hB⟩
    have hTl := blk_lt hT
    have H1 := Lib.hid hT
    have H2 := Lib.hid hM
    have H3 := Lib.hid hB
    clear hT hM hB
    by_cases hlt : k < 256
    · have hlt2 : decide ((k : Int) < 256) = true := by simp; omega
      gi_wp2_with (fail)
      refine ⟨trivial, (callsIn_wide.2 (bits_any _ _)).mono ?_⟩
      rintro e w' ⟨rfl, rfl⟩
      gi_wp2
      refine range_law (n := 4) (by omega) k hlt W.heap.size (W.heap.size + 1) (by simp; omega) (by simp) (by omega) ?hr ?hb rfl rfl
        (fun v => { tmps := #[.pointer (some ⟨w.heap.size, 0, none⟩), .int .i64 k, .pointer (some ⟨W.heap.size, 0, none⟩), v, u4, .int .i64 k, .bool true, .int .i64 k, .int .i64 k, .int .u8 k, .func (.func 66) #[] #[.pointer (some ⟨W.heap.size + 1, 0, none⟩)], v, u12, u13, u14, u15, u16, u17, u18, u19, u20, u21, u22, u23, u24, u25], defers := [] }) ?assign ?body ?done
      case hr => 
        have := blk_alloc (blk_new W (.cells #[.int .u32 0] 46)) (.cells #[.int .u8 k] 5)
        exact this
      case hb =>
        have := blk_new (W.alloc (.cells #[.int .u32 0] 46)) (.cells #[.int .u8 k] 5)
        rw [World.size_alloc] at this
        exact this
      case assign =>
        intro l v X K hK
        gi_wp2
        exact hK
      case body =>
        intro l R b X hX
        have c0 : X.cell? ⟨W.heap.size, 0, none⟩ = some (.int .u32 (R.toNat : Int)) := blk_cell hX 0
        have hR := R.isLt
        have f0 := blk_frozen hX 0
        have HX := Lib.hid hX
        clear hX
        gi_wp2
        rw [reg_step]
        rfl
      case done =>
        intro X hX hD
        have hs2 : ((W.alloc (.cells #[.int .u32 0] 46)).alloc (.cells #[.int .u8 k] 5)).heap.size = W.heap.size + 2 := by simp
        have hsz := hX.size
        rw [hs2] at hD hsz ⊢
        have hXT : X.heap[w.heap.size]? = some (.cells (tabCells k) 86 (0, 0)) := by
          rw [hX.keep _ (by omega) (by omega) (by omega)]
          exact blk_alloc (blk_alloc H1.out _) _
        have c0 : X.cell? ⟨W.heap.size, 0, none⟩ = some (.int .u32 ((tab (UInt8.ofNat k)).toNat : Int)) := blk_cell hX.r 0
        have c1 : X.cell? ⟨w.heap.size, k, none⟩ = some (.int .u32 0) := by
          rw [blk_cell hXT, tabCells_get k k hlt, if_neg (Nat.lt_irrefl k)]; rfl
        have f1 := blk_frozen hXT k
        have K1 := Lib.hid hXT
        have K2 := Lib.hid hX
        have K3 := Lib.hid hD
        clear hX hXT hD
        gi_wp2
        refine ⟨⟨k + 1, (W.heap.size + 2) :: ds, _, _, _, _, _, _, _, _, _, _, _, _, _, _, _, _, _, _, _, _, _, _, _, _, by omega, rfl, ?_, ?_, ?_⟩, ?_⟩
        · have := blk_set K1.out k (regV (tab (UInt8.ofNat k)))
          rw [tabCells_succ] at this
          exact this
        · have hm := H2.out
          have hold : ∀ D ∈ ds, D < W.heap.size := fun D hD => blk_lt (hm.at_ D hD)
          refine ⟨List.nodup_cons.2 ⟨fun h => by have := hold _ h; omega, hm.nodup⟩, ?_, ?_⟩
          · intro D hD
            rcases List.mem_cons.1 hD with rfl | hD
            · omega
            · exact hm.above D hD
          · intro D hD
            have hDT : D ≠ w.heap.size := by
              rcases List.mem_cons.1 hD with rfl | hD
              · omega
              · have := hm.above D hD; omega
            rw [setCell_heap_ne _ _ _ _ hDT]
            rcases List.mem_cons.1 hD with rfl | hD
            · exact K3.out
            · have h1 := hold D hD
              rw [K2.out.keep D (by rw [hs2]; omega) (by omega) (by omega)]
              exact blk_alloc (blk_alloc (hm.at_ D hD) _) _
        · refine Below.setCell (p := ⟨w.heap.size, k, none⟩) ?_ (Nat.le_refl _) _
          refine H3.out.trans ⟨K2.out.os, K2.out.tape, K2.out.output, by omega, fun j hj => ?_⟩
          rw [K2.out.keep j (by rw [hs2]; omega) (by omega) (by omega), Below.heap_alloc _ _ _ (by simp; omega), Below.heap_alloc _ _ _ (by omega)]
        · simp [intOf]; omega
    · obtain rfl : k = 256 := by omega
      have hl : ∀ cs : Array Value, W.heap[w.heap.size]? = some (.cells cs 86 (0, 0)) → cs.size = 256 → (Instr.loadAt 86 (.pointer (some ⟨w.heap.size, 0, none⟩))).run Try.prog W = .ok (.agg cs) W := by
        intro cs h hc
        simp only [Instr.loadAt, Instr.sureAddr, Sem.run_bind, Sem.run_pure, Result.andThen_ok, run_loadVar_row (P := Try.prog) W w.heap.size 86 86 cs (0, 0) _ h Try.underlying86 rfl (by rw [hc]; kernel_rfl)]
      have hl2 := hl _ H1.out (tabCells_size _)
      have hone : ∀ v ∈ (tabCells 256).toList, v.oneCell' = true := by
        intro x hx
        simp only [tabCells, List.mem_map] at hx
        obtain ⟨i, _, rfl⟩ := hx
        split <;> rfl
      have hst2 := run_storeCells_from (P := Try.prog) w.heap.size 86 (tabCells 256).toList 0 _ W H1.out (by simp) hone
      clear hl hone
      have hlt2 : decide ((256 : Int) < 256) = false := rfl
      gi_wp2
      refine ⟨fun _ _ => trivial, ?_⟩
      change Oper.uponIn _ _ _ _ _ _ _ (Sem.run Try.prog (do pure (Next.value (← Instr.loadAt 86 (.pointer (some ⟨w.heap.size, 0, none⟩)))) : Sem Next) W)
      rw [Sem.run_bind, hl2]
      change Oper.uponIn _ _ _ _ _ _ _ (.ok (.value (.agg (tabCells 256))) W)
      rw [Oper.uponIn_value]
      generalize hcs : tabCells 256 = cs at *
      have hsz : cs.size = 256 := by rw [← hcs]; exact tabCells_size _
      have HC := Lib.hid hcs
      clear hcs
      gi_wp2
      have ho : ∀ i, i ≠ w.heap.size → (W.setRow w.heap.size cs).heap[i]? = W.heap[i]? := fun i hi => setRow_other W _ i cs hi
      refine leaves_marks 4 w.heap.size cs hsz _ rfl _ w (fun X hX => ⟨by rw [HC.out], hX⟩) ds _ ⟨H2.out.nodup, H2.out.above, fun D hD => ?_⟩ ?_ ?_
      · have := H2.out.above D hD
        rw [ho _ (by omega)]; exact H2.out.at_ D hD
      · exact setRow_heap W _ cs _ 86 (0, 0) H1.out
      · exact H3.out.trans ⟨rfl, rfl, rfl, by simp, fun k hk => ho k (by omega)⟩
end Go.Proofs.Ytdemkcnhcgiheaa
