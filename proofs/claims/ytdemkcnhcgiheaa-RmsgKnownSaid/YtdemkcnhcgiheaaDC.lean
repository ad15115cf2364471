/- The walk of Decode, where the seal is right. Conditions: the bytes are short, and so are the data of a message that may be. -/
import Derived.Test.YtdemkcnhcgiheaaDB
import Derived.Deep.RegionLaw
namespace Go.Proofs.Ytdemkcnhcgiheaa
open Go.RowKit
theorem DS.lost {w W W' : World} {N g b B : Nat} {M : Mg} {v : Value} {r : Rd} (h : DS w N g b B M v r W) (hb : But W.heap.size b W W') :
    W'.heap[N]? = some (.cells (mgCells M v) 27 (0, 0)) ∧ W'.heap[N + 1]? = some (.cells #[.int .i64 0] 29 (0, 0)) ∧ Below w.heap.size w W' := by
  obtain ⟨h1, h2, h3, h4, h5, h6, e0, e1, e2, e3, e4, e5, e6⟩ := h
  exact ⟨blk_but hb (blk_lt h1) (by omega) h1, blk_but hb (blk_lt h2) (by omega) h2, h6.trans ((hb.mono (B' := w.heap.size) (by omega)).below (by omega))⟩
theorem small_at (k : Nat) (t : Bs) (b g : Nat) (w : World) (hg : w.cell? ⟨g, 0, none⟩ = some (.pointer (some ⟨b, 0, none⟩))) (hb : IsRd w b (after k (some t))) (hl : t.length ≤ 900000) (hn : nth k (some t) ≤ 64) :
    Calls Try.prog 46 #[.pointer (some ⟨g, 0, none⟩)] w fun e w' => e = .returned (.int .i64 (nth k (some t) : Nat)) ∧ IsRd w' b (after (k + 1) (some t)) ∧ But w.heap.size b w w' :=
  small_yes (after k (some t)) b g w hg hb (Nat.le_trans (after_length k (some t)) (by simpa using Nat.le_trans hl (by decide))) hn
theorem small_out (k : Nat) (t : Bs) (b g : Nat) (w : World) (hg : w.cell? ⟨g, 0, none⟩ = some (.pointer (some ⟨b, 0, none⟩))) (hb : IsRd w b (after k (some t))) (hl : t.length ≤ 900000) (hn : ¬ nth k (some t) ≤ 64) :
    Calls Try.prog 46 #[.pointer (some ⟨g, 0, none⟩)] w fun e w' => e = .panicked [wrongV 4] ∧ But w.heap.size b w w' :=
  small_no (after k (some t)) b g w hg hb (Nat.le_trans (after_length k (some t)) (by simpa using Nat.le_trans hl (by decide))) hn
theorem num_at (k : Nat) (r : Rd) (b : Nat) (w : World) (hb : IsRd w b (after k r)) (hl : (r.getD []).length ≤ 900000) :
    Calls Try.prog 47 #[.pointer (some ⟨b, 0, none⟩)] w fun e w' => e = .returned (.int .u64 (nth k r : Nat)) ∧ IsRd w' b (after (k + 1) r) ∧ But w.heap.size b w w' :=
  num_any (after k r) b w hb (Nat.le_trans (after_length k r) (Nat.le_trans hl (by decide)))
/-- the message as far as it is read ahead of its entries -/
def headM (t : Bs) (es : List Ent) : Mg := ⟨(nth 0 (some t) : Nat), (nth 1 (some t) : Nat), (nth 2 (some t) : Nat), nth 3 (some t), nth 4 (some t), nth 5 (some t), nth 6 (some t), es, false, 0, 0, 0, 0, []⟩
theorem headM_cells (t : Bs) (es : List Ent) (v : Value) : mgCells (headM t es) v = #[.int .i64 (nth 0 (some t) : Nat), .int .i64 (nth 1 (some t) : Nat), .int .i64 (nth 2 (some t) : Nat), .int .u64 (nth 3 (some t) : Nat), .int .u64 (nth 4 (some t) : Nat), .int .u64 (nth 5 (some t) : Nat), .int .u64 (nth 6 (some t) : Nat), v, .bool false, .int .u64 0, .int .u64 0, .int .u64 0, .int .u64 0, .string ⟨#[]⟩] := rfl
theorem info34 : (Try.prog.info? 34).map (fun i => (i.zero, i.size, i.bytes)) = some (some (.agg #[.int .u64 0, .int .u64 0, .string ⟨#[]⟩]), 3, 32) := by kernel_rfl
theorem DS.alloc {w W : World} {N g b B : Nat} {M : Mg} {v : Value} {r : Rd} (h : DS w N g b B M v r W) (o : Obj) : DS w N g b B M v r (W.alloc o) := by
  obtain ⟨h1, h2, h3, h4, h5, h6, e0, e1, e2, e3, e4, e5, e6⟩ := h
  exact ⟨blk_alloc h1 _, blk_alloc h2 _, blk_alloc h3 _, rd_alloc h4 _, own_alloc h5 _, h6.alloc h6.size _, e0, e1, e2, e3, e4, e5, by rw [World.size_alloc]; omega⟩
theorem own_far {w : World} {B k n : Nat} {e : TypeId} {sz : Nat} {v : Value} {xs : List Value} (h : w.ownsRow B e sz v n xs) (hk : k < B) : some k ≠ v.ownBlock := by
  obtain ⟨h1, h | ⟨g, cap, cur, hv, hg0, hg, r⟩⟩ := h
  · rw [h.1]; intro hh; cases hh
  · rw [hv]; intro hh; have : k = g := by simpa [Value.ownBlock] using hh
    omega
theorem DS.far {w W W' : World} {N g b B : Nat} {M : Mg} {v : Value} {r : Rd} (h : DS w N g b B M v r W) (hg : W.grownBy W' v.ownBlock) (k : Nat) (hk : k < B) : W'.heap[k]? = W.heap[k]? :=
  hg.block k (Nat.lt_of_lt_of_le hk h.ord.2.2.2.2.2.2) (own_far h.own hk)
/-- behind an append, ahead of the store -/
theorem DS.grown {w W W' : World} {N g b B : Nat} {t : Bs} {acc : List Ent} {v v' : Value} {r : Rd} (h : DS w N g b B (headM t acc) v r W) (e : Ent) (hg : W.grownBy W' v.ownBlock)
    (ho : W'.ownsRow B 34 3 v' (acc.length + 1) (entFlat acc ++ (entCells e).toList)) : DS w N g b B (headM t (acc ++ [e])) v' r (W'.setCell ⟨N, 7, none⟩ v') := by
  have hf := h.far hg
  obtain ⟨h1, h2, h3, h4, h5, h6, e0, e1, e2, e3, e4, e5, e6⟩ := h
  refine ⟨?_, blk_other ((hf _ (by omega)).trans h2) (by show N + 1 ≠ N; omega) _, blk_other ((hf _ e4).trans h3) (by show g ≠ N; omega) _, rd_other ((hf _ e5).trans h4) (by show b ≠ N; omega) _, ?_, ?_, e0, e1, e2, e3, e4, e5, ?_⟩
  · exact blk_set ((hf _ (by omega)).trans h1) 7 v'
  · have := own_set ho ⟨N, 7, none⟩ (by show N < B; omega) v'
    rw [show (headM t (acc ++ [e])).es = acc ++ [e] from rfl, entFlat_snoc, List.length_append]
    exact this
  · have hb : Below w.heap.size W W' := ⟨hg.os, hg.tape, hg.output, hg.size, fun k hk => hf k (by omega)⟩
    exact (but_of_below (h6.trans hb) N).setNew (p := ⟨N, 7, none⟩) (by show w.heap.size ≤ N; omega) v' |>.below (by omega)
  · rw [size_set]; exact Nat.le_trans e6 hg.size
theorem cells_one (e : Ent) : ∀ u ∈ (entCells e).toList, u.oneCell' = true := by
  intro u hu
  simp only [entCells, List.mem_cons, List.not_mem_nil, or_false] at hu
  rcases hu with rfl | rfl | rfl <;> rfl
/-- the message behind its entries; whole -/
def midM (t : Bs) (es : List Ent) (r : Rd) : Mg := ⟨(nth 0 (some t) : Nat), (nth 1 (some t) : Nat), (nth 2 (some t) : Nat), nth 3 (some t), nth 4 (some t), nth 5 (some t), nth 6 (some t), es, nth 0 r == 1, nth 1 r, nth 2 r, 0, 0, []⟩
def lastM (t : Bs) (es : List Ent) (r : Rd) : Mg := ⟨(nth 0 (some t) : Nat), (nth 1 (some t) : Nat), (nth 2 (some t) : Nat), nth 3 (some t), nth 4 (some t), nth 5 (some t), nth 6 (some t), es, nth 0 r == 1, nth 1 r, nth 2 r, nth 3 r, nth 4 r, (tail5 r).1⟩
theorem lastM_parse {t : Bs} {es : List Ent} {r : Rd} (h0 : nth 0 (some t) ≤ 64) (h1 : nth 1 (some t) ≤ 64) (h2 : nth 2 (some t) ≤ 64) (h7 : nth 7 (some t) ≤ 64) (hr : rents (nth 7 (some t)) (after 8 (some t)) = (es, r)) : lastM t es r = parse t ∧ (tail5 r).2 = left t := by
  have e7 : min (nth 7 (some t)) 99 = nth 7 (some t) := Nat.min_eq_left (by omega)
  constructor
  · unfold parse
    rw [e7, hr, Nat.min_eq_left (by omega : nth 0 (some t) ≤ 99), Nat.min_eq_left (by omega : nth 1 (some t) ≤ 99), Nat.min_eq_left (by omega : nth 2 (some t) ≤ 99)]
    rfl
  · unfold left
    rw [e7, hr]
theorem int_one (n : Nat) : ((n : Int) == 1) = (n == 1) := by
  by_cases h : n = 1
  · subst h; rfl
  · rw [beq_eq_false_iff_ne.2 h, beq_eq_false_iff_ne.2 (by omega)]
theorem DS.mid {w W : World} {N g b B : Nat} {t : Bs} {acc : List Ent} {v : Value} {r r' : Rd} (h : DS w N g b B (headM t acc) v r' W) :
    DS w N g b B (midM t acc r) v r' (((W.setCell ⟨N, 8, none⟩ (.bool ((nth 0 r : Int) == 1))).setCell ⟨N, 9, none⟩ (.int .u64 (nth 1 r : Nat))).setCell ⟨N, 10, none⟩ (.int .u64 (nth 2 r : Nat))) := by
  refine h.put ?_ (((but_of_below (Below.refl _ W) N).set 8 _).set 9 _ |>.set 10 _) ?_
  · rw [int_one]
    exact blk_set (blk_set (blk_set h.msg 8 _) 9 _) 10 _
  · have hN : N < B := by have := h.ord; omega
    exact own_set (own_set (own_set h.own _ hN _) _ hN _) _ hN _
theorem DS.last {w W : World} {N g b B : Nat} {t : Bs} {acc : List Ent} {v : Value} {r r' : Rd} (h : DS w N g b B (midM t acc r) v r' W) :
    DS w N g b B (lastM t acc r) v r' (((W.setCell ⟨N, 11, none⟩ (.int .u64 (nth 3 r : Nat))).setCell ⟨N, 12, none⟩ (.int .u64 (nth 4 r : Nat))).setCell ⟨N, 13, none⟩ (.string (bs (tail5 r).1))) := by
  refine h.put ?_ (((but_of_below (Below.refl _ W) N).set 11 _).set 12 _ |>.set 13 _) ?_
  · exact blk_set (blk_set (blk_set h.msg 11 _) 12 _) 13 _
  · have hN : N < B := by have := h.ord; omega
    exact own_set (own_set (own_set h.own _ hN _) _ hN _) _ hN _
theorem DS.later {w W W' : World} {N g b B : Nat} {M : Mg} {v : Value} {r : Rd} (h : DS w N g b B M v r W) (hb : Below W.heap.size W W') : DS w N g b B M v r W' :=
  h.step (rd_below hb (blk_lt h.rd) h.rd) (but_of_below hb b)
theorem text_at (r : Rd) (b : Nat) (w : World) (hb : IsRd w b (after 5 r)) (hl : (r.getD []).length ≤ 900000) :
    Calls Try.prog 49 #[.pointer (some ⟨b, 0, none⟩)] w fun e w' => e = .returned (.string (bs (tail5 r).1)) ∧ IsRd w' b (tail5 r).2 ∧ But w.heap.size b w w' :=
  text_any (after 5 r) b w hb (Nat.le_trans (after_length 5 r) (Nat.le_trans hl (by decide)))
set_option maxRecDepth 100000 in
set_option maxHeartbeats 8000000 in
theorem decode_some (s t : Bs) (w : World) (hl : s.length ≤ 900000) (ho : open_ s = some t) (ht : t.length ≤ 900000) (hs : checkB (parse t) = true → (parse t).small) (R : Ending → World → Prop)
    (hno : good t = false → ∀ W', Below w.heap.size w W' → R (.returned (.tuple #[.agg (mgCells zeroM (.slice none 0 0)), .int .i64 4])) W')
    (hyes : good t = true → ∀ v W', Below w.heap.size w W' → EntsAt W' v (parse t).es → R (.returned (.tuple #[.agg (mgCells (parse t) v), .int .i64 0])) W') :
    Calls Try.prog 19 #[.string (bs s)] w R := by
  have hmf : ∀ (fn : Fn) (first cap : Array Value) (w : World), (Instr.makeFunc fn first cap).run Try.prog w = .ok (.func fn first cap) w := fun _ _ _ _ => rfl
  have HNO := Lib.hid hno
  have HYES := Lib.hid hyes
  have HS := Lib.hid hs
  clear hno hyes hs
  go_enter_defers Try.func19, Try.ntmps19
  go_wp2_with fail
  refine (open_any s _ hl).mono ?_
  rintro e w1 ⟨rfl, hb1⟩
  rw [show openV s = .tuple #[.string (bs t), .bool true] by rw [openV, ho]; rfl]
  have hN : w1.heap[w.heap.size]? = some (.cells (mgCells zeroM (.slice none 0 0)) 27 (0, 0)) := by
    rw [zeroM_cells]; exact blk_below hb1 (by simp; omega) (blk_alloc (blk_new w _) _)
  have hE : w1.heap[w.heap.size + 1]? = some (.cells #[.int .i64 0] 29 (0, 0)) := by
    have := blk_new (w.alloc (.cells #[.int .i64 0, .int .i64 0, .int .i64 0, .int .u64 0, .int .u64 0, .int .u64 0, .int .u64 0, .slice none 0 0, .bool false, .int .u64 0, .int .u64 0, .int .u64 0, .int .u64 0, .string ⟨#[]⟩] 27)) (.cells #[.int .i64 0] 29 (0, 0))
    rw [World.size_alloc] at this
    exact blk_below hb1 (by simp) this
  have hB : Below w.heap.size w w1 := (((Below.refl _ w).alloc (Nat.le_refl _) _).alloc (by simp) _).trans (hb1.mono (by simp; omega))
  have HN := Lib.hid hN
  have HE := Lib.hid hE
  have HB := Lib.hid hB
  clear hN hE hB hb1
  go_wp2_with fail
  refine (must_yes 8 w1).mono ?_
  rintro e w2 ⟨rfl, rfl⟩
  go_wp2_with fail
  refine (newReader_any t w2).mono ?_
  rintro e w3 ⟨rfl, hr3, hs3, hb3⟩
  have hbb := hb3.size
  have hNb := blk_lt HE.out
  have R3 := Lib.hid hr3
  have S3 := Lib.hid hs3
  have N3 := Lib.hid (blk_below hb3 (by omega) HN.out)
  have E3 := Lib.hid (blk_below hb3 (by omega) HE.out)
  have B3 := Lib.hid (HB.out.trans (hb3.mono (by omega)))
  clear hr3 hs3 hb3 HN HE HB
  obtain ⟨b, hb⟩ : ∃ b, b = w2.heap.size := ⟨_, rfl⟩
  rw [← hb] at R3 S3 hNb hbb ⊢
  clear hb
  obtain ⟨N, hN⟩ : ∃ N, N = w.heap.size := ⟨_, rfl⟩
  rw [← hN] at N3 E3 hNb ⊢
  have HNE := Lib.hid hN
  clear hN
  go_wp2_with fail
  have D0 : DS w N (b + 1) b (b + 2) zeroM (.slice none 0 0) (some t) (w3.alloc (.cells #[.pointer (some ⟨b, 0, none⟩)] 60)) := by
    refine ⟨blk_alloc N3.out _, blk_alloc E3.out _, ?_, rd_alloc R3.out _, World.ownsRow_nil _ _ _ _, B3.out.alloc B3.out.size _, HNE.out.symm, by omega, by omega, by omega, by omega, by omega, ?_⟩
    · have := blk_new w3 (.cells #[.pointer (some ⟨b, 0, none⟩)] 60)
      rwa [S3.out] at this
    · rw [World.size_alloc, S3.out]
      exact Nat.le_refl _
  obtain ⟨g, hg⟩ : ∃ g, g = w3.heap.size := ⟨_, rfl⟩
  rw [← S3.out, ← hg] at D0
  rw [← hg]
  obtain ⟨W, hW⟩ : ∃ W, W = w3.alloc (.cells #[.pointer (some ⟨b, 0, none⟩)] 60) := ⟨_, rfl⟩
  rw [← hW] at D0 ⊢
  clear hg hW R3 S3 N3 E3 B3 hNb hbb
  obtain ⟨B, hB⟩ : ∃ B, B = b + 2 := ⟨_, rfl⟩
  rw [← hB] at D0
  clear hB
  have D0 := Lib.hid D0
  by_cases hn0 : nth 0 (some t) ≤ 64
  case neg =>
    refine (small_out 0 t b g _ D0.out.cell D0.out.rd ht hn0).mono ?_
    rintro e w' ⟨rfl, hb'⟩
    obtain ⟨q1, q2, q3⟩ := D0.out.lost hb'
    have Q1 := Lib.hid q1
    have Q2 := Lib.hid q2
    have Q3 := Lib.hid q3
    clear q1 q2 q3 hb'
    go_wp2_with fail
    exact gives_up _ N w' _ _ _ 4 rfl rfl Q1.out Q2.out fun W' h => HNO.out (bad_small t 0 (by decide) hn0) _ (h _ _ (Nat.le_of_eq D0.out.ord.1) Q3.out)
  refine (small_at 0 t b g _ D0.out.cell D0.out.rd ht hn0).mono ?_
  rintro e W1 ⟨rfl, hr, hb⟩
  have D1 := Lib.hid (D0.out.step hr hb)
  clear hr hb
  go_wp2_with fail
  by_cases hn1 : nth 1 (some t) ≤ 64
  case neg =>
    refine (small_out 1 t b g _ D1.out.cell D1.out.rd ht hn1).mono ?_
    rintro e w' ⟨rfl, hb'⟩
    obtain ⟨q1, q2, q3⟩ := D1.out.lost hb'
    have Q1 := Lib.hid q1
    have Q2 := Lib.hid q2
    have Q3 := Lib.hid q3
    clear q1 q2 q3 hb'
    go_wp2_with fail
    exact gives_up _ N w' _ _ _ 4 rfl rfl Q1.out Q2.out fun W' h => HNO.out (bad_small t 1 (by decide) hn1) _ (h _ _ (Nat.le_of_eq D1.out.ord.1) Q3.out)
  refine (small_at 1 t b g _ D1.out.cell D1.out.rd ht hn1).mono ?_
  rintro e W2 ⟨rfl, hr, hb⟩
  have D2 := Lib.hid (D1.out.step hr hb)
  clear hr hb
  go_wp2_with fail
  by_cases hn2 : nth 2 (some t) ≤ 64
  case neg =>
    refine (small_out 2 t b g _ D2.out.cell D2.out.rd ht hn2).mono ?_
    rintro e w' ⟨rfl, hb'⟩
    obtain ⟨q1, q2, q3⟩ := D2.out.lost hb'
    have Q1 := Lib.hid q1
    have Q2 := Lib.hid q2
    have Q3 := Lib.hid q3
    clear q1 q2 q3 hb'
    go_wp2_with fail
    exact gives_up _ N w' _ _ _ 4 rfl rfl Q1.out Q2.out fun W' h => HNO.out (bad_small t 2 (by decide) hn2) _ (h _ _ (Nat.le_of_eq D2.out.ord.1) Q3.out)
  refine (small_at 2 t b g _ D2.out.cell D2.out.rd ht hn2).mono ?_
  rintro e W3 ⟨rfl, hr, hb⟩
  have D3 := Lib.hid (D2.out.step hr hb)
  clear hr hb
  have cv := D3.out.cell
  go_wp2_with fail
  clear cv
  refine (num_at 3 (some t) b _ D3.out.rd ht).mono ?_
  rintro e W4 ⟨rfl, hr, hb⟩
  have D4 := Lib.hid (D3.out.step hr hb)
  clear hr hb
  have cv := D4.out.cell
  go_wp2_with fail
  clear cv
  refine (num_at 4 (some t) b _ D4.out.rd ht).mono ?_
  rintro e W5 ⟨rfl, hr, hb⟩
  have D5 := Lib.hid (D4.out.step hr hb)
  clear hr hb
  have cv := D5.out.cell
  go_wp2_with fail
  clear cv
  refine (num_at 5 (some t) b _ D5.out.rd ht).mono ?_
  rintro e W6 ⟨rfl, hr, hb⟩
  have D6 := Lib.hid (D5.out.step hr hb)
  clear hr hb
  have cv := D6.out.cell
  go_wp2_with fail
  clear cv
  refine (num_at 6 (some t) b _ D6.out.rd ht).mono ?_
  rintro e W7 ⟨rfl, hr, hb⟩
  have D7 := Lib.hid (D6.out.step hr hb)
  clear hr hb
  obtain ⟨c0, c1, c2, c3, c4, c5, c6, c7, c8, c9, c10, c11, c12, c13⟩ := mg_cells D7.out.msg
  have fz := mg_frozen D7.out.msg
  have f0 := fz 0
  have f1 := fz 1
  have f2 := fz 2
  have f3 := fz 3
  have f4 := fz 4
  have f5 := fz 5
  have f6 := fz 6
  have f7 := fz 7
  have f8 := fz 8
  have f9 := fz 9
  have f10 := fz 10
  have f11 := fz 11
  have f12 := fz 12
  have f13 := fz 13
  clear fz
  go_wp2_with fail
  have D8 : DS w N g b B (headM t []) (.slice none 0 0) (after 7 (some t)) ((((((((((((((W7.setCell ⟨N, 0, none⟩ (.int .i64 (nth 0 (some t) : Nat))).setCell ⟨N, 1, none⟩ (.int .i64 (nth 1 (some t) : Nat))).setCell ⟨N, 2, none⟩ (.int .i64 (nth 2 (some t) : Nat))).setCell ⟨N, 3, none⟩ (.int .u64 (nth 3 (some t) : Nat))).setCell ⟨N, 4, none⟩ (.int .u64 (nth 4 (some t) : Nat))).setCell ⟨N, 5, none⟩ (.int .u64 (nth 5 (some t) : Nat))).setCell ⟨N, 6, none⟩ (.int .u64 (nth 6 (some t) : Nat))).setCell ⟨N, 7, none⟩ (.slice none 0 0)).setCell ⟨N, 8, none⟩ (.bool false)).setCell ⟨N, 9, none⟩ (.int .u64 0)).setCell ⟨N, 10, none⟩ (.int .u64 0)).setCell ⟨N, 11, none⟩ (.int .u64 0)).setCell ⟨N, 12, none⟩ (.int .u64 0)).setCell ⟨N, 13, none⟩ (.string ⟨#[]⟩)) := by
    refine D7.out.put ?_ ?_ (World.ownsRow_nil _ _ _ _)
    · rw [headM_cells]
      exact blk_set14 D7.out.msg _ _ _ _ _ _ _ _ _ _ _ _ _ _
    · exact ((((((((((((((but_of_below (Below.refl _ W7) N).set 0 _).set 1 _).set 2 _).set 3 _).set 4 _).set 5 _).set 6 _).set 7 _).set 8 _).set 9 _).set 10 _).set 11 _).set 12 _).set 13 _
  clear c0 c1 c2 c3 c4 c5 c6 c7 c8 c9 c10 c11 c12 c13 f0 f1 f2 f3 f4 f5 f6 f7 f8 f9 f10 f11 f12 f13
  clear D0 D1 D2 D3 D4 D5 D6
  generalize hW8 : World.setCell _ ⟨N, 13, none⟩ _ = W8 at D8 ⊢
  clear hW8 D7 W7 W6 W5 W4 W3 W2 W1
  have D8 := Lib.hid D8
  by_cases hn7 : nth 7 (some t) ≤ 64
  case neg =>
    refine (small_out 7 t b g _ D8.out.cell D8.out.rd ht hn7).mono ?_
    rintro e w' ⟨rfl, hb'⟩
    obtain ⟨q1, q2, q3⟩ := D8.out.lost hb'
    have Q1 := Lib.hid q1
    have Q2 := Lib.hid q2
    have Q3 := Lib.hid q3
    clear q1 q2 q3 hb'
    go_wp2_with fail
    exact gives_up _ N w' _ _ _ 4 rfl rfl Q1.out Q2.out fun W' h => HNO.out (bad_count t hn7) _ (h _ _ (Nat.le_of_eq D8.out.ord.1) Q3.out)
  refine (small_at 7 t b g _ D8.out.cell D8.out.rd ht hn7).mono ?_
  rintro e W9 ⟨rfl, hr, hb⟩
  have D9 := Lib.hid (D8.out.step hr hb)
  clear hr hb
  obtain ⟨n, hn⟩ : ∃ n, n = nth 7 (some t) := ⟨_, rfl⟩
  rw [← hn] at hn7 ⊢
  have HNN := Lib.hid hn
  clear hn D8
  go_wp2_with fail
  go_loopw [50] (fun i W => ∃ (k : Nat) (acc : List Ent) (v : Value) (r : Rd), k ≤ n ∧ i = .int .i64 k ∧ (r.getD []).length ≤ 900000 ∧ Hid (Half n k (after 8 (some t)) acc r) ∧ Hid (DS w N g b B (headM t acc) v r W)) (fun i _ => n - (intOf i).toNat)
  case atStart => exact ⟨0, [], _, _, Nat.zero_le _, rfl, Nat.le_trans (after_length 8 (some t)) ht, Half.zero _ _, D9.out⟩
  case round =>
    obtain ⟨k, acc, v, r, hk, rfl, hrl, HH, HD⟩ := hrel
    by_cases hlt : k < n
    · have cv := HD.out.cell
      have c7 : wr.cell? ⟨N, 7, none⟩ = some v := blk_cell HD.out.msg 7
      go_wp2_with fail
      obtain ⟨i0, hi, hz0, hz1, hz2⟩ := info_parts info34
      have hNg : ¬ N = g := by have := HD.out.ord; omega
      have hacc : acc.length ≤ 64 := by have := HH.out.2.1; omega
      have hrl2 : (r.getD []).length ≤ 1000000 := by omega
      refine wp_region_noPanic ?_
      go_region_law (first
          | (refine step_append_lies _ rfl (.tmp 53) (.tmp 56) 23 rfl B 34 i0 (.agg #[.int .u64 0, .int .u64 0, .string ⟨#[]⟩]) 3 32 Try.underlying23 hi hz0 hz1 hz2 rfl (by decide) v acc.length (entFlat acc) (by simp [Act.eval]) (E1.out.alloc _).own ⟨w1.heap.size, 0, none⟩ 1 1 (entCells (rent r).1).toList (by simp [Act.eval]) rfl (World.news_of_block (blk_new w1 _)) (cells_one _) (by decide) (by unfold maxLen; omega) (by omega) (E1.out.alloc _).ord.2.2.2.2.2.2 _ rfl ?_
             intro gg cap w3 hown hgrow hat hlt3
             have E3 := Lib.hid ((E1.out.alloc _).grown (rent r).1 hgrow hown)
             have hm3 := ((E1.out.alloc _).far hgrow N (by have := HD.out.ord; omega)).trans (E1.out.alloc _).msg
             have k73 : w3.cell? ⟨N, 7, none⟩ = some v := blk_cell hm3 7
             have f73 := mg_frozen hm3 7
             have kv2 : w3.cell? ⟨g, 0, none⟩ = some (.pointer (some ⟨b, 0, none⟩)) := blk_cell (((E1.out.alloc _).far hgrow g (by have := HD.out.ord; omega)).trans (E1.out.alloc _).var) 0
             clear hown hgrow hat hm3)
          | (go_simp
             go_at_call 40
             refine (entry_any r b wr.drew HD.out.drew.rd hrl2).mono ?_
             rintro e w1 ⟨rfl, hr1, hb1⟩
             rw [show entCells (rent r).1 = #[.int .u64 ((rent r).1.t : Int), .int .u64 ((rent r).1.i : Int), .string (bs (rent r).1.d)] from rfl]
             have E1 := Lib.hid (HD.out.drew.step hr1 hb1)
             have k7 : w1.cell? ⟨N, 7, none⟩ = some v := blk_cell E1.out.msg 7
             have kv : w1.cell? ⟨g, 0, none⟩ = some (.pointer (some ⟨b, 0, none⟩)) := E1.out.cell
             have k7a : ∀ o, (w1.alloc o).cell? ⟨N, 7, none⟩ = some v := fun o => blk_cell (blk_alloc E1.out.msg o) 7
             clear hr1 hb1))
      all_goals
        refine NoPanic.normal ?_
        clear k7 kv k7a k73 f73 kv2 cv c7
        generalize hW4 : World.setCell _ ⟨N, 7, none⟩ _ = W4 at E3 ⊢
        clear hW4 hlt3 hi hz0 hz1 hz2 i0
        have cv := E3.out.cell
        go_wp2_with fail
        refine (ok_any (rent r).2 b W4 E3.out.rd).mono ?_
        rintro e W5 ⟨rfl, rfl⟩
        obtain ⟨r', hr'⟩ : ∃ r', r' = (rent r).2 := ⟨_, rfl⟩
        rw [← hr'] at E3 ⊢
        have HR' := Lib.hid hr'
        clear hr' cv
        cases r' with
        | none =>
          rw [show (none : Rd).isSome = false from rfl]
          go_wp2_with fail
          refine (must_no 4 W4).mono ?_
          rintro e w5 ⟨rfl, rfl⟩
          go_wp2_with fail
          exact gives_up _ N w5 _ _ _ 4 rfl rfl E3.out.msg E3.out.err fun W' h => HNO.out (left_none t (by rw [Nat.min_eq_left (by have := HNN.out; omega), ← HNN.out]; exact HH.out.stop hlt HR'.out.symm)) _ (h _ _ (Nat.le_of_eq E3.out.ord.1) E3.out.below)
        | some l =>
          rw [show (some l : Rd).isSome = true from rfl]
          go_wp2_with fail
          refine (must_yes 4 W4).mono ?_
          rintro e w5 ⟨rfl, rfl⟩
          go_wp2_with fail
          refine ⟨⟨k + 1, acc ++ [(rent r).1], _, some l, by omega, by go_num, ?_, ?_, E3.out⟩, by simp [intOf]; omega⟩
          · rw [HR'.out]
            exact Nat.le_trans (rent_length r) hrl
          · rw [HR'.out]
            exact HH.out.next hlt HR'.out.symm
    · obtain rfl : k = n := by omega
      go_wp2_with fail
      have hall := HH.out.all rfl
      clear HH D0 D8 D9 W8 hlt hk
      have hND : N < B := by have := HD.out.ord; omega
      have cv := HD.out.cell
      have c8 : wr.cell? ⟨N, 8, none⟩ = some (.bool false) := blk_cell HD.out.msg 8
      have c9 : wr.cell? ⟨N, 9, none⟩ = some (.int .u64 0) := blk_cell HD.out.msg 9
      have c10 : wr.cell? ⟨N, 10, none⟩ = some (.int .u64 0) := blk_cell HD.out.msg 10
      have hNg : ¬ N = g := by have := HD.out.ord; omega
      go_region_held3 (fun W => W.cell? ⟨g, 0, none⟩ = some (.pointer (some ⟨b, 0, none⟩)))
        (first | exact cv | exact kv3 | exact kv2 | exact kv | go_keep)
        (first
          | (go_at_call 47
             refine (num_at 2 r b w2 E2.out.rd hrl).mono ?_
             rintro e w3 ⟨rfl, hr3, hb3⟩
             have E3 := Lib.hid (E2.out.step hr3 hb3)
             have kv3 : w3.cell? ⟨g, 0, none⟩ = some (.pointer (some ⟨b, 0, none⟩)) := E3.out.cell
             have d8 : w3.cell? ⟨N, 8, none⟩ = some (.bool false) := blk_cell E3.out.msg 8
             have d9 : w3.cell? ⟨N, 9, none⟩ = some (.int .u64 0) := blk_cell E3.out.msg 9
             have d10 : w3.cell? ⟨N, 10, none⟩ = some (.int .u64 0) := blk_cell E3.out.msg 10
             have f8 := mg_frozen E3.out.msg 8
             have f9 := mg_frozen E3.out.msg 9
             have f10 := mg_frozen E3.out.msg 10
             clear hr3 hb3)
          | (go_at_call 47
             refine (num_at 1 r b w1 E1.out.rd hrl).mono ?_
             rintro e w2 ⟨rfl, hr2, hb2⟩
             have E2 := Lib.hid (E1.out.step hr2 hb2)
             have kv2 : w2.cell? ⟨g, 0, none⟩ = some (.pointer (some ⟨b, 0, none⟩)) := E2.out.cell
             clear hr2 hb2)
          | (go_at_call 47
             refine (num_at 0 r b wr.drew HD.out.drew.rd hrl).mono ?_
             rintro e w1 ⟨rfl, hr1, hb1⟩
             have E1 := Lib.hid (HD.out.drew.step hr1 hb1)
             have kv : w1.cell? ⟨g, 0, none⟩ = some (.pointer (some ⟨b, 0, none⟩)) := E1.out.cell
             clear hr1 hb1))
      have E4 := E3.out.mid (r := r)
      clear d8 d9 d10 f8 f9 f10 kv kv2 kv3 cv c8 c9 c10 E1 E2
      generalize hW4 : World.setCell _ ⟨N, 10, none⟩ _ = W4 at E4 ⊢
      clear hW4
      have E4 := Lib.hid E4
      go_wp2_with fail
      have cv := E4.out.cell
      go_region_held3 (fun W => W.cell? ⟨g, 0, none⟩ = some (.pointer (some ⟨b, 0, none⟩)))
        (first | exact cv | exact kv3 | exact kv2 | exact kv | go_keep)
        (first
          | (go_at_call 49
             refine (text_at r b w6 E6.out.rd hrl).mono ?_
             rintro e w7 ⟨rfl, hr3, hb3⟩
             have E7 := Lib.hid (E6.out.step hr3 hb3)
             have kv3 : w7.cell? ⟨g, 0, none⟩ = some (.pointer (some ⟨b, 0, none⟩)) := E7.out.cell
             have d11 : w7.cell? ⟨N, 11, none⟩ = some (.int .u64 0) := blk_cell E7.out.msg 11
             have d12 : w7.cell? ⟨N, 12, none⟩ = some (.int .u64 0) := blk_cell E7.out.msg 12
             have d13 : w7.cell? ⟨N, 13, none⟩ = some (.string (bs [])) := blk_cell E7.out.msg 13
             have f11 := mg_frozen E7.out.msg 11
             have f12 := mg_frozen E7.out.msg 12
             have f13 := mg_frozen E7.out.msg 13
             clear hr3 hb3)
          | (go_at_call 47
             refine (num_at 4 r b w5 E5.out.rd hrl).mono ?_
             rintro e w6 ⟨rfl, hr2, hb2⟩
             have E6 := Lib.hid (E5.out.step hr2 hb2)
             have kv2 : w6.cell? ⟨g, 0, none⟩ = some (.pointer (some ⟨b, 0, none⟩)) := E6.out.cell
             clear hr2 hb2)
          | (go_at_call 47
             refine (num_at 3 r b W4.drew E4.out.drew.rd hrl).mono ?_
             rintro e w5 ⟨rfl, hr1, hb1⟩
             have E5 := Lib.hid (E4.out.drew.step hr1 hb1)
             have kv : w5.cell? ⟨g, 0, none⟩ = some (.pointer (some ⟨b, 0, none⟩)) := E5.out.cell
             clear hr1 hb1))
      have E8 := E7.out.last (r := r)
      obtain ⟨hpar, hlef⟩ := lastM_parse hn0 hn1 hn2 (HNN.out ▸ hn7) (HNN.out ▸ hall)
      rw [hpar, hlef] at E8
      clear d11 d12 d13 f11 f12 f13 kv kv2 kv3 cv E5 E6 E7 hpar hlef hall E4 E3
      generalize hW8 : World.setCell _ ⟨N, 13, none⟩ _ = W8 at E8 ⊢
      clear hW8
      have E8 := Lib.hid E8
      have cv := E8.out.cell
      go_wp2_with fail
      refine (end_any (left t) b W8 E8.out.rd).mono ?_
      rintro e w9 ⟨rfl, rfl⟩
      clear cv
      cases hre : rend (left t) with
      | false =>
        have hgd : good t = false := by rw [good, hre]; rfl
        have HG := Lib.hid hgd
        clear hre hgd
        go_wp2_with fail
        refine (must_no 4 W8).mono ?_
        rintro e w5 ⟨rfl, rfl⟩
        go_wp2_with fail
        exact gives_up _ N w5 _ _ _ 4 rfl rfl E8.out.msg E8.out.err fun W' h => HNO.out HG.out _ (h _ _ (Nat.le_of_eq E8.out.ord.1) E8.out.below)
      | true =>
        have HRE := Lib.hid hre
        clear hre
        obtain ⟨m, hm⟩ : ∃ m, m = parse t := ⟨_, rfl⟩
        have hfit : m.fit := hm ▸ parse_fit t (Nat.le_trans ht (by decide))
        rw [← hm] at E8
        have HMT := Lib.hid hm
        have HFIT := Lib.hid hfit
        clear hm hfit
        obtain ⟨c0, c1, c2, c3, c4, c5, c6, c7, c8, c9, c10, c11, c12, c13⟩ := mg_cells E8.out.msg
        go_wp2_with fail
        refine (check_any m v W8 HFIT.out (own_ents E8.out.own)).mono ?_
        rintro e w10 ⟨rfl, hb10⟩
        have E10 := Lib.hid (E8.out.later hb10)
        clear hb10 c0 c1 c2 c3 c4 c5 c6 c7 c8 c9 c10 c11 c12 c13
        cases hck : checkB m with
        | false =>
          have hgd : good t = false := by rw [good, ← HMT.out, hck, Bool.and_false, Bool.false_and]
          have HG := Lib.hid hgd
          clear hck hgd
          go_wp2_with fail
          refine (must_no 4 w10).mono ?_
          rintro e w5 ⟨rfl, rfl⟩
          go_wp2_with fail
          exact gives_up _ N w5 _ _ _ 4 rfl rfl E10.out.msg E10.out.err fun W' h => HNO.out HG.out _ (h _ _ (Nat.le_of_eq E10.out.ord.1) E10.out.below)
        | true =>
          have HCK := Lib.hid hck
          have hf := checkB_facts hck
          have hok := HFIT.out.ok (HMT.out ▸ HS.out (HMT.out ▸ hck)) hf.2.2.2
          have HF := Lib.hid hf
          have HOK := Lib.hid hok
          clear hck hf hok
          obtain ⟨c0, c1, c2, c3, c4, c5, c6, c7, c8, c9, c10, c11, c12, c13⟩ := mg_cells E10.out.msg
          go_wp2_with fail
          refine (lay_any m v w10 HOK.out HF.out.1 HF.out.2.1 HF.out.2.2.1 (own_ents E10.out.own)).mono ?_
          rintro e w11 ⟨rfl, hb11⟩
          have E11 := Lib.hid (E10.out.later hb11)
          clear hb11 c0 c1 c2 c3 c4 c5 c6 c7 c8 c9 c10 c11 c12 c13
          by_cases heq : layB m = t
          case neg =>
            have hgd : good t = false := by
              rw [good, ← HMT.out]
              rw [show (layB m == t) = false from beq_eq_false_iff_ne.2 heq, Bool.and_false]
            have hne : ¬ bs (layB m) = bs t := fun h => heq (bs_inj.1 h)
            have HG := Lib.hid hgd
            clear hgd
            go_wp2_with fail
            rw [show (layB m == t) = false from beq_eq_false_iff_ne.2 heq]
            refine (must_no 4 w11).mono ?_
            rintro e w5 ⟨rfl, rfl⟩
            go_wp2_with fail
            exact gives_up _ N w5 _ _ _ 4 rfl rfl E11.out.msg E11.out.err fun W' h => HNO.out HG.out _ (h _ _ (Nat.le_of_eq E11.out.ord.1) E11.out.below)
          case pos =>
            have hgd : good t = true := by
              rw [good, ← HMT.out, HRE.out, HCK.out]
              simp [heq]
            have HG := Lib.hid hgd
            have hne : bs (layB m) = bs t := congrArg bs heq
            clear hgd heq
            go_wp2_with fail
            refine (must_yes 4 w11).mono ?_
            rintro e w5 ⟨rfl, rfl⟩
            obtain ⟨A, cap, rfl, _⟩ := (own_ents E11.out.own).form2
            obtain ⟨c0, c1, c2, c3, c4, c5, c6, c7, c8, c9, c10, c11, c12, c13⟩ := mg_cells E11.out.msg
            have fz := mg_frozen E11.out.msg
            have fe := blk_frozen E11.out.err 0
            have ce : w5.cell? ⟨N + 1, 0, none⟩ = some (.int .i64 0) := blk_cell E11.out.err 0
            have f0 := fz 0
            have f1 := fz 1
            have f2 := fz 2
            have f3 := fz 3
            have f4 := fz 4
            have f5 := fz 5
            have f6 := fz 6
            have f7 := fz 7
            have f8 := fz 8
            have f9 := fz 9
            have f10 := fz 10
            have f11 := fz 11
            have f12 := fz 12
            have f13 := fz 13
            clear fz
            go_wp2_with fail
            clear f0 f1 f2 f3 f4 f5 f6 f7 f8 f9 f10 f11 f12 f13 c0 c1 c2 c3 c4 c5 c6 c7 c8 c9 c10 c11 c12 c13 fe ce
            refine gives_back _ N _ m (.slice A m.es.length cap) 0 rfl rfl ?_ ?_ ?_
            · exact blk_other (blk_set14 E11.out.msg _ _ _ _ _ _ _ _ _ _ _ _ _ _) (by show N ≠ N + 1; omega) _
            · refine blk_set (cs := #[.int .i64 0]) ?_ 0 _
              have hne : N + 1 ≠ N := by omega
              exact blk_other (blk_other (blk_other (blk_other (blk_other (blk_other (blk_other (blk_other (blk_other (blk_other (blk_other (blk_other (blk_other (blk_other E11.out.err hne _) hne _) hne _) hne _) hne _) hne _) hne _) hne _) hne _) hne _) hne _) hne _) hne _) hne _
            · rw [HMT.out]
              refine HYES.out HG.out _ _ ?_ ?_
              · have hwN : w.heap.size ≤ N := Nat.le_of_eq E11.out.ord.1
                exact But.below (b := N) (But.setNew (p := ⟨N + 1, 0, none⟩) ((((((((((((((((but_of_below E11.out.below N).set 0 _).set 1 _).set 2 _).set 3 _).set 4 _).set 5 _).set 6 _).set 7 _).set 8 _).set 9 _).set 10 _).set 11 _).set 12 _).set 13 _)) (by show w.heap.size ≤ N + 1; omega) _) hwN
              · rw [← HMT.out]
                have hNB : N < B := by have := E11.out.ord; omega
                have hNB2 : N + 1 < B := by have := E11.out.ord; omega
                exact own_ents (own_set (own_set (own_set (own_set (own_set (own_set (own_set (own_set (own_set (own_set (own_set (own_set (own_set (own_set (own_set E11.out.own _ hNB _) _ hNB _) _ hNB _) _ hNB _) _ hNB _) _ hNB _) _ hNB _) _ hNB _) _ hNB _) _ hNB _) _ hNB _) _ hNB _) _ hNB _) _ hNB _) _ hNB2 _)
end Go.Proofs.Ytdemkcnhcgiheaa
