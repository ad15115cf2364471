/- The walk of cut: a message of few entries, of short data. No condition. -/
import Derived.Test.YtdemkcnhcgiheaaDC
import Derived.Deep.AppendLies
import Derived.OwnWalk
namespace Go.Proofs.Ytdemkcnhcgiheaa
open Go.RowKit
/-- entries that lie in memory that came in -/
def ArgEnts (w : World) (v : Value) (es : List Ent) : Prop := ∃ A cap, v = .slice A es.length cap ∧ ∀ k (_ : k < es.length), ∃ b off, A = some ⟨b, off, none⟩ ∧ b < w.heap.size ∧
    w.cell? ⟨b, off + k * 3, none⟩ = some (.int .u64 (es[k].t : Int)) ∧ w.cell? ⟨b, off + k * 3 + 1, none⟩ = some (.int .u64 (es[k].i : Int)) ∧ w.cell? ⟨b, off + k * 3 + 2, none⟩ = some (.string (bs es[k].d))
def cutE (e : Ent) : Ent := ⟨e.t, e.i, e.d.take 200⟩
def cutEs (es : List Ent) (k : Nat) : List Ent := (es.take k).map cutE
def cutM (m : Mg) : Mg := ⟨m.k, m.f, m.t, m.term, m.ix, m.lt, m.cm, cutEs m.es 70, m.rj, m.hi, m.cx, m.si, m.st, m.sd.take 500⟩
theorem cutEs_succ (es : List Ent) (k : Nat) (h : k < es.length) : cutEs es (k + 1) = cutEs es k ++ [cutE es[k]] := by
  rw [cutEs, List.take_succ_eq_append_getElem h, List.map_append]; rfl
theorem cutEs_length (es : List Ent) (k : Nat) (h : k ≤ es.length) : (cutEs es k).length = k := by
  rw [cutEs, List.length_map, List.length_take]; omega
theorem cutEs_end (es : List Ent) (k : Nat) (h : k ≤ 70) (he : k = 70 ∨ k = es.length) : cutEs es k = cutEs es 70 := by
  rcases he with rfl | rfl
  · rfl
  · rw [cutEs, cutEs, List.take_length, List.take_of_length_le h]
theorem own_ge {w : World} {B n : Nat} {e : TypeId} {sz : Nat} {v : Value} {xs : List Value} (h : w.ownsRow B e sz v n xs) (k : Nat) (hk : v.ownBlock = some k) : B ≤ k := by
  rcases Nat.lt_or_ge k B with hlt | hge
  · exact absurd hk.symm (own_far h hlt)
  · exact hge
theorem own_weak {w : World} {B B' n : Nat} {e : TypeId} {sz : Nat} {v : Value} {xs : List Value} (h : w.ownsRow B e sz v n xs) (hB : B' ≤ B) : w.ownsRow B' e sz v n xs := by
  obtain ⟨h1, h | ⟨g, cap, cur, hv, hg0, r⟩⟩ := h
  · exact ⟨h1, .inl h⟩
  · exact ⟨h1, .inr ⟨g, cap, cur, hv, Nat.le_trans hB hg0, r⟩⟩
theorem own_slice {w : World} {B n : Nat} {e : TypeId} {sz : Nat} {v : Value} {xs : List Value} (h : w.ownsRow B e sz v n xs) : ∃ A cap, v = .slice A n cap := by
  obtain ⟨_, ⟨rfl, rfl⟩ | ⟨g, cap, cur, rfl, _⟩⟩ := h
  · exact ⟨_, _, rfl⟩
  · exact ⟨_, _, rfl⟩
theorem take_min (l : Bs) (q c : Nat) (h : q = min l.length c) : l.take q = l.take c := by
  rcases Nat.le_total l.length c with h1 | h1
  · rw [h, Nat.min_eq_left h1, List.take_length, List.take_of_length_le h1]
  · rw [h, Nat.min_eq_right h1]
theorem min_ints (n c : Nat) (W : World) : (Builtin.min_ #[3, 3] 3 #[.int .i64 (n : Nat), .int .i64 (c : Nat)]).run Try.prog W = .ok (.int .i64 (min n c : Nat)) W := by
  have e : (if c < n then (c : Int) else (n : Int)) = ((min n c : Nat) : Int) := by split <;> omega
  simp [Builtin.min_, Builtin.min2, e]
set_option maxRecDepth 100000 in
set_option maxHeartbeats 8000000 in
theorem cut_any (m : Mg) (v : Value) (w : World) (ha : ArgEnts w v m.es) :
    Calls Try.prog 8 #[.agg (mgCells m v)] w fun e w' => ∃ v', e = .returned (.agg (mgCells (cutM m) v')) ∧ w'.ownsRow w.heap.size 34 3 v' (cutM m).es.length (entFlat (cutM m).es) ∧ Below w.heap.size w w' := by
  obtain ⟨A, cap, rfl, hcells⟩ := ha
  have HCE := Lib.hid hcells
  clear hcells
  obtain ⟨R, hR⟩ : ∃ R : Ending → World → Prop, R = fun e w' => ∃ v', e = .returned (.agg (mgCells (cutM m) v')) ∧ w'.ownsRow w.heap.size 34 3 v' (cutM m).es.length (entFlat (cutM m).es) ∧ Below w.heap.size w w' := ⟨_, rfl⟩
  rw [← hR]
  have HR := Lib.hid hR
  clear hR
  have hZ := zeroM_cells
  have HZ := Lib.hid hZ
  clear hZ
  unfold mgCells
  go_enter Try.func8, Try.ntmps8
  go_wp2_with fail
  have hb1 : ((w.alloc (.cells #[.int .i64 m.k, .int .i64 m.f, .int .i64 m.t, .int .u64 (m.term : Int), .int .u64 (m.ix : Int), .int .u64 (m.lt : Int), .int .u64 (m.cm : Int), .slice A m.es.length cap, .bool m.rj, .int .u64 (m.hi : Int), .int .u64 (m.cx : Int), .int .u64 (m.si : Int), .int .u64 (m.st : Int), .string (bs m.sd)] 27)).alloc (.cells #[.int .i64 0, .int .i64 0, .int .i64 0, .int .u64 0, .int .u64 0, .int .u64 0, .int .u64 0, .slice none 0 0, .bool false, .int .u64 0, .int .u64 0, .int .u64 0, .int .u64 0, .string ⟨#[]⟩] 27)).heap[w.heap.size]? = some (.cells (mgCells m (.slice A m.es.length cap)) 27 (0, 0)) := blk_alloc (blk_new w _) _
  have hb2 : ((w.alloc (.cells #[.int .i64 m.k, .int .i64 m.f, .int .i64 m.t, .int .u64 (m.term : Int), .int .u64 (m.ix : Int), .int .u64 (m.lt : Int), .int .u64 (m.cm : Int), .slice A m.es.length cap, .bool m.rj, .int .u64 (m.hi : Int), .int .u64 (m.cx : Int), .int .u64 (m.si : Int), .int .u64 (m.st : Int), .string (bs m.sd)] 27)).alloc (.cells #[.int .i64 0, .int .i64 0, .int .i64 0, .int .u64 0, .int .u64 0, .int .u64 0, .int .u64 0, .slice none 0 0, .bool false, .int .u64 0, .int .u64 0, .int .u64 0, .int .u64 0, .string ⟨#[]⟩] 27)).heap[w.heap.size + 1]? = some (.cells (mgCells zeroM (.slice none 0 0)) 27 (0, 0)) := by
    have := blk_new (w.alloc (.cells #[.int .i64 m.k, .int .i64 m.f, .int .i64 m.t, .int .u64 (m.term : Int), .int .u64 (m.ix : Int), .int .u64 (m.lt : Int), .int .u64 (m.cm : Int), .slice A m.es.length cap, .bool m.rj, .int .u64 (m.hi : Int), .int .u64 (m.cx : Int), .int .u64 (m.si : Int), .int .u64 (m.st : Int), .string (bs m.sd)] 27)) (.cells #[.int .i64 0, .int .i64 0, .int .i64 0, .int .u64 0, .int .u64 0, .int .u64 0, .int .u64 0, .slice none 0 0, .bool false, .int .u64 0, .int .u64 0, .int .u64 0, .int .u64 0, .string ⟨#[]⟩] 27 (0, 0))
    rw [World.size_alloc] at this
    rw [HZ.out]
    exact this
  have hb3 : Below w.heap.size w ((w.alloc (.cells #[.int .i64 m.k, .int .i64 m.f, .int .i64 m.t, .int .u64 (m.term : Int), .int .u64 (m.ix : Int), .int .u64 (m.lt : Int), .int .u64 (m.cm : Int), .slice A m.es.length cap, .bool m.rj, .int .u64 (m.hi : Int), .int .u64 (m.cx : Int), .int .u64 (m.si : Int), .int .u64 (m.st : Int), .string (bs m.sd)] 27)).alloc (.cells #[.int .i64 0, .int .i64 0, .int .i64 0, .int .u64 0, .int .u64 0, .int .u64 0, .int .u64 0, .slice none 0 0, .bool false, .int .u64 0, .int .u64 0, .int .u64 0, .int .u64 0, .string ⟨#[]⟩] 27)) := ((Below.refl _ w).alloc (Nat.le_refl _) _).alloc (by rw [World.size_alloc]; omega) _
  have hb4 : ((w.alloc (.cells #[.int .i64 m.k, .int .i64 m.f, .int .i64 m.t, .int .u64 (m.term : Int), .int .u64 (m.ix : Int), .int .u64 (m.lt : Int), .int .u64 (m.cm : Int), .slice A m.es.length cap, .bool m.rj, .int .u64 (m.hi : Int), .int .u64 (m.cx : Int), .int .u64 (m.si : Int), .int .u64 (m.st : Int), .string (bs m.sd)] 27)).alloc (.cells #[.int .i64 0, .int .i64 0, .int .i64 0, .int .u64 0, .int .u64 0, .int .u64 0, .int .u64 0, .slice none 0 0, .bool false, .int .u64 0, .int .u64 0, .int .u64 0, .int .u64 0, .string ⟨#[]⟩] 27)).heap.size = w.heap.size + 2 := by rw [World.size_alloc, World.size_alloc]
  generalize hW : World.alloc (World.alloc w _) _ = W0 at hb1 hb2 hb3 hb4 ⊢
  obtain ⟨N, hN⟩ : ∃ N, N = w.heap.size := ⟨_, rfl⟩
  rw [← hN] at hb1 hb2 hb4 ⊢
  have hwN : w.heap.size ≤ N := Nat.le_of_eq hN.symm
  have HB1 := Lib.hid hb1
  have HB2 := Lib.hid hb2
  have HB3 := Lib.hid hb3
  have HB4 := Lib.hid hb4
  have HWN := Lib.hid hwN
  clear hW HZ hb1 hb2 hb3 hb4 hwN hN
  go_loopw [3, 4] (fun l i W => ∃ (k : Nat) (v : Value), k ≤ m.es.length ∧ k ≤ 70 ∧ i = .int .i64 k ∧ v = l ∧ Hid (W.ownsRow (N + 2) 34 3 v k (entFlat (cutEs m.es k))) ∧ Hid (Below W0.heap.size W0 W)) (fun _ i _ => m.es.length - (intOf i).toNat)
  case atStart => exact ⟨0, _, Nat.zero_le _, by decide, rfl, rfl, World.ownsRow_nil _ _ _ _, Below.refl _ _⟩
  case round =>
    obtain ⟨k, v, hk, hk70, rfl, rfl, HO, HB⟩ := hrel
    have hN0 : N < W0.heap.size := blk_lt HB1.out
    have hm := blk_below HB.out hN0 HB1.out
    have c7 : wr.cell? ⟨N, 7, none⟩ = some (.slice A m.es.length cap) := blk_cell hm 7
    have HM := Lib.hid hm
    clear hm
    by_cases hlt : k < m.es.length
    · by_cases h70 : k < 70
      · obtain ⟨b, off, rfl, hb, d0, d1, d2⟩ := HCE.out k hlt
        have hb0 : b < W0.heap.size := Nat.lt_of_lt_of_le hb HB3.out.size
        obtain ⟨e, he⟩ : ∃ e, e = m.es[k] := ⟨_, rfl⟩
        rw [← he] at d0 d1 d2
        replace d0 := (HB.out.cell (p := ⟨b, off + k * 3, none⟩) hb0).trans ((HB3.out.cell (p := ⟨b, off + k * 3, none⟩) hb).trans d0)
        replace d1 := (HB.out.cell (p := ⟨b, off + k * 3 + 1, none⟩) hb0).trans ((HB3.out.cell (p := ⟨b, off + k * 3 + 1, none⟩) hb).trans d1)
        replace d2 := (HB.out.cell (p := ⟨b, off + k * 3 + 2, none⟩) hb0).trans ((HB3.out.cell (p := ⟨b, off + k * 3 + 2, none⟩) hb).trans d2)
        have HE := Lib.hid he
        clear he
        obtain ⟨q, hq⟩ : ∃ q : Nat, q = min e.d.length 200 := ⟨_, rfl⟩
        have hmin : ∀ W, (Builtin.min_ #[3, 3] 3 #[.int .i64 (e.d.length : Nat), .int .i64 200]).run Try.prog W = .ok (.int .i64 (q : Nat)) W := fun W => by rw [hq]; exact min_ints e.d.length 200 W
        have hq1 : q ≤ e.d.length := by omega
        have htk : e.d.take q = e.d.take 200 := take_min _ _ _ hq
        obtain ⟨ed, hed⟩ : ∃ x, x = e.d.take q := ⟨_, rfl⟩
        have hcE : entCells (cutE e) = #[.int .u64 (e.t : Int), .int .u64 (e.i : Int), .string (bs (e.d.take q))] := by rw [htk]; rfl
        have HCE2 := Lib.hid hcE
        clear hq hcE htk hed
        obtain ⟨i0, hi, hz0, hz1, hz2⟩ := info_parts info34
        obtain ⟨X, hX⟩ : ∃ X : Obj, X = .cells #[.int .u64 (e.t : Int), .int .u64 (e.i : Int), .string (bs (e.d.take q))] 34 := ⟨_, rfl⟩
        have hnews : ((wr.alloc X).alloc X).heap[wr.heap.size + 1]? = some (.cells (entCells (cutE e)) 34 (0, 0)) := by
          have := blk_new (wr.alloc X) X
          rw [World.size_alloc] at this
          rw [this, hX, HCE2.out]
        have hbel : Below W0.heap.size W0 ((wr.alloc X).alloc X) := (HB.out.alloc HB.out.size X).alloc (by rw [World.size_alloc]; have := HB.out.size; omega) X
        have hown0 : ((wr.alloc X).alloc X).ownsRow (N + 2) 34 3 v k (entFlat (cutEs m.es k)) := own_alloc (own_alloc HO.out X) X
        have hsz : N + 2 ≤ ((wr.alloc X).alloc X).heap.size := by rw [World.size_alloc, World.size_alloc]; have := HB.out.size; have := HB4.out; omega
        rw [hX] at hnews hbel hown0 hsz
        have HNEW := Lib.hid hnews
        have HBEL := Lib.hid hbel
        have HOWN := Lib.hid hown0
        have HSZ := Lib.hid hsz
        clear hnews hbel hown0 hsz hX X
        go_wp2_with (at_builtin; refine wpList_append_lies _ rfl _ _ 23 rfl (N + 2) 34 i0 (.agg #[.int .u64 0, .int .u64 0, .string ⟨#[]⟩]) 3 32 Try.underlying23 hi hz0 hz1 hz2 rfl (by decide) v k (entFlat (cutEs m.es k)) rfl HOWN.out ⟨wr.heap.size + 1, 0, none⟩ 1 1 (entCells (cutE e)).toList rfl rfl (World.news_of_block HNEW.out) (cells_one _) (by decide) (by unfold maxLen; omega) (by omega) HSZ.out _ rfl ?_; intro g cap2 w3 hown hgrow hat hlt3)
        refine ⟨⟨k + 1, _, by omega, by omega, by go_num, rfl, ?_, ?_⟩, by simp [intOf]; omega⟩
        · rw [cutEs_succ _ _ hlt, entFlat_snoc, ← HE.out]
          exact hown
        · exact HBEL.out.grown hgrow (by have := HSZ.out; have := HB4.out; omega) (fun j hj => by have := own_ge HOWN.out j hj; have := HB4.out; omega)
      · skip
        clear c7
        have hes : cutEs m.es k = cutEs m.es 70 := cutEs_end m.es k hk70 (by omega)
        obtain ⟨A2, cap2, rfl⟩ := own_slice HO.out
        have hmm := HM.out
        have hzz := blk_below HB.out (by have := HB4.out; omega) HB2.out
        obtain ⟨q, hq⟩ : ∃ q : Nat, q = min m.sd.length 500 := ⟨_, rfl⟩
        have hmin : ∀ W, (Builtin.min_ #[3, 3] 3 #[.int .i64 (m.sd.length : Nat), .int .i64 500]).run Try.prog W = .ok (.int .i64 (q : Nat)) W := fun W => by rw [hq]; exact min_ints m.sd.length 500 W
        have hq1 : q ≤ m.sd.length := by omega
        have htk : m.sd.take q = m.sd.take 500 := take_min _ _ _ hq
        have HTK := Lib.hid htk
        have HES := Lib.hid hes
        obtain ⟨c0, c1, c2, c3, c4, c5, c6, c7, c8, c9, c10, c11, c12, c13⟩ := mg_cells hmm
        obtain ⟨d0, d1, d2, d3, d4, d5, d6, d7, d8, d9, d10, d11, d12, d13⟩ := mg_cells hzz
        have f7 := mg_frozen hmm 7
        have f13 := mg_frozen hmm 13
        have gz := mg_frozen hzz
        have g0 := gz 0
        have g1 := gz 1
        have g2 := gz 2
        have g3 := gz 3
        have g4 := gz 4
        have g5 := gz 5
        have g6 := gz 6
        have g7 := gz 7
        have g8 := gz 8
        have g9 := gz 9
        have g10 := gz 10
        have g11 := gz 11
        have g12 := gz 12
        have g13 := gz 13
        have HZZ := Lib.hid hzz
        have hNN : ¬ N = N + 1 := by omega
        clear hmm hzz gz hq htk hes
        go_wp2_with fail
        clear c0 c1 c2 c3 c4 c5 c6 c7 c8 c9 c10 c11 c12 c13 d0 d1 d2 d3 d4 d5 d6 d7 d8 d9 d10 d11 d12 d13 f7 f13 g0 g1 g2 g3 g4 g5 g6 g7 g8 g9 g10 g11 g12 g13
        have hcut : mgCells (cutM m) (.slice A2 k cap2) = #[.int .i64 m.k, .int .i64 m.f, .int .i64 m.t, .int .u64 (m.term : Int), .int .u64 (m.ix : Int), .int .u64 (m.lt : Int), .int .u64 (m.cm : Int), .slice A2 k cap2, .bool m.rj, .int .u64 (m.hi : Int), .int .u64 (m.cx : Int), .int .u64 (m.si : Int), .int .u64 (m.st : Int), .string (bs (m.sd.take q))] := by rw [HTK.out]; rfl
        refine bodyPost_ret (v := .agg (mgCells (cutM m) (.slice A2 k cap2))) (results_cell_row (P := Try.prog) (p := 2) (ty := 27) rfl _ _ (N + 1) 27 _ (0, 0) _ rfl ?_ Try.underlying27 rfl (by kernel_rfl)) rfl ?_
        · rw [hcut]
          exact blk_set14 (blk_other (blk_other HZZ.out (by show N + 1 ≠ N; omega) _) (by show N + 1 ≠ N; omega) _) _ _ _ _ _ _ _ _ _ _ _ _ _ _
        · rw [HR.out]
          refine ⟨_, rfl, ?_, ?_⟩
          · rw [show (cutM m).es = cutEs m.es k from HES.out.symm]
            have hNB : N < N + 2 := by omega
            have hNB2 : N + 1 < N + 2 := by omega
            refine own_weak (B := N + 2) ?_ (by have := HWN.out; omega)
            rw [cutEs_length m.es k hk]
            exact (own_set (own_set (own_set (own_set (own_set (own_set (own_set (own_set (own_set (own_set (own_set (own_set (own_set (own_set (own_set (own_set HO.out _ hNB _) _ hNB _) _ hNB2 _) _ hNB2 _) _ hNB2 _) _ hNB2 _) _ hNB2 _) _ hNB2 _) _ hNB2 _) _ hNB2 _) _ hNB2 _) _ hNB2 _) _ hNB2 _) _ hNB2 _) _ hNB2 _) _ hNB2 _)
          · have hwN : w.heap.size ≤ N := HWN.out
            have hwN2 : w.heap.size ≤ N + 1 := by omega
            exact (((((((((((((((((HB3.out.trans (HB.out.mono HB3.out.size)).setCell hwN _).setCell hwN _).setCell hwN2 _).setCell hwN2 _).setCell hwN2 _).setCell hwN2 _).setCell hwN2 _).setCell hwN2 _).setCell hwN2 _).setCell hwN2 _).setCell hwN2 _).setCell hwN2 _).setCell hwN2 _).setCell hwN2 _).setCell hwN2 _).setCell hwN2 _)
    · skip
      clear c7
      have hes : cutEs m.es k = cutEs m.es 70 := cutEs_end m.es k hk70 (by omega)
      obtain ⟨A2, cap2, rfl⟩ := own_slice HO.out
      have hmm := HM.out
      have hzz := blk_below HB.out (by have := HB4.out; omega) HB2.out
      obtain ⟨q, hq⟩ : ∃ q : Nat, q = min m.sd.length 500 := ⟨_, rfl⟩
      have hmin : ∀ W, (Builtin.min_ #[3, 3] 3 #[.int .i64 (m.sd.length : Nat), .int .i64 500]).run Try.prog W = .ok (.int .i64 (q : Nat)) W := fun W => by rw [hq]; exact min_ints m.sd.length 500 W
      have hq1 : q ≤ m.sd.length := by omega
      have htk : m.sd.take q = m.sd.take 500 := take_min _ _ _ hq
      have HTK := Lib.hid htk
      have HES := Lib.hid hes
      obtain ⟨c0, c1, c2, c3, c4, c5, c6, c7, c8, c9, c10, c11, c12, c13⟩ := mg_cells hmm
      obtain ⟨d0, d1, d2, d3, d4, d5, d6, d7, d8, d9, d10, d11, d12, d13⟩ := mg_cells hzz
      have f7 := mg_frozen hmm 7
      have f13 := mg_frozen hmm 13
      have gz := mg_frozen hzz
      have g0 := gz 0
      have g1 := gz 1
      have g2 := gz 2
      have g3 := gz 3
      have g4 := gz 4
      have g5 := gz 5
      have g6 := gz 6
      have g7 := gz 7
      have g8 := gz 8
      have g9 := gz 9
      have g10 := gz 10
      have g11 := gz 11
      have g12 := gz 12
      have g13 := gz 13
      have HZZ := Lib.hid hzz
      have hNN : ¬ N = N + 1 := by omega
      clear hmm hzz gz hq htk hes
      go_wp2_with fail
      clear c0 c1 c2 c3 c4 c5 c6 c7 c8 c9 c10 c11 c12 c13 d0 d1 d2 d3 d4 d5 d6 d7 d8 d9 d10 d11 d12 d13 f7 f13 g0 g1 g2 g3 g4 g5 g6 g7 g8 g9 g10 g11 g12 g13
      have hcut : mgCells (cutM m) (.slice A2 k cap2) = #[.int .i64 m.k, .int .i64 m.f, .int .i64 m.t, .int .u64 (m.term : Int), .int .u64 (m.ix : Int), .int .u64 (m.lt : Int), .int .u64 (m.cm : Int), .slice A2 k cap2, .bool m.rj, .int .u64 (m.hi : Int), .int .u64 (m.cx : Int), .int .u64 (m.si : Int), .int .u64 (m.st : Int), .string (bs (m.sd.take q))] := by rw [HTK.out]; rfl
      refine bodyPost_ret (v := .agg (mgCells (cutM m) (.slice A2 k cap2))) (results_cell_row (P := Try.prog) (p := 2) (ty := 27) rfl _ _ (N + 1) 27 _ (0, 0) _ rfl ?_ Try.underlying27 rfl (by kernel_rfl)) rfl ?_
      · rw [hcut]
        exact blk_set14 (blk_other (blk_other HZZ.out (by show N + 1 ≠ N; omega) _) (by show N + 1 ≠ N; omega) _) _ _ _ _ _ _ _ _ _ _ _ _ _ _
      · rw [HR.out]
        refine ⟨_, rfl, ?_, ?_⟩
        · rw [show (cutM m).es = cutEs m.es k from HES.out.symm]
          have hNB : N < N + 2 := by omega
          have hNB2 : N + 1 < N + 2 := by omega
          refine own_weak (B := N + 2) ?_ (by have := HWN.out; omega)
          rw [cutEs_length m.es k hk]
          exact (own_set (own_set (own_set (own_set (own_set (own_set (own_set (own_set (own_set (own_set (own_set (own_set (own_set (own_set (own_set (own_set HO.out _ hNB _) _ hNB _) _ hNB2 _) _ hNB2 _) _ hNB2 _) _ hNB2 _) _ hNB2 _) _ hNB2 _) _ hNB2 _) _ hNB2 _) _ hNB2 _) _ hNB2 _) _ hNB2 _) _ hNB2 _) _ hNB2 _) _ hNB2 _)
        · have hwN : w.heap.size ≤ N := HWN.out
          have hwN2 : w.heap.size ≤ N + 1 := by omega
          exact (((((((((((((((((HB3.out.trans (HB.out.mono HB3.out.size)).setCell hwN _).setCell hwN _).setCell hwN2 _).setCell hwN2 _).setCell hwN2 _).setCell hwN2 _).setCell hwN2 _).setCell hwN2 _).setCell hwN2 _).setCell hwN2 _).setCell hwN2 _).setCell hwN2 _).setCell hwN2 _).setCell hwN2 _).setCell hwN2 _).setCell hwN2 _)
end Go.Proofs.Ytdemkcnhcgiheaa
