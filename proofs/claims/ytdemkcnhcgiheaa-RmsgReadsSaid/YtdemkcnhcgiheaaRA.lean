/- What the document's Decode calls and what stands in memory while it runs. Conditions: the bytes are short. -/
import Derived.Test.YtdemkcnhcgiheaaDC
import Derived.Test.YtdemkcnhcgiheaaVC
namespace Go.Proofs.Ytdemkcnhcgiheaa
open Go.RowKit
theorem refSmall_at (k : Nat) (t : Bs) (b : Nat) (w : World) (hb : IsRr w b (after k (some t))) (hl : t.length ≤ 900000) :
    Calls Try.prog 51 #[.pointer (some ⟨b, 0, none⟩)] w fun e w' => e = .returned (.int .i64 (min (nth k (some t)) 99 : Nat)) ∧ IsRr w' b (after (k + 1) (some t)) ∧ But w.heap.size b w w' := by
  have HB := Lib.hid hb
  have hc : ∀ u w, (convert 22 3 (.int .u64 u)).run Try.prog w = .ok (.int .i64 (IntKind.i64.wrap u)) w := fun _ _ => rfl
  have hmin : ∀ W, (Builtin.min_ #[22, 22] 22 #[.int .u64 (nth k (some t) : Nat), .int .u64 99]).run Try.prog W = .ok (.int .u64 (min (nth k (some t)) 99 : Nat)) W := by
    intro W
    have e : (if (99 : Int) < (nth k (some t) : Nat) then (99 : Int) else (nth k (some t) : Nat)) = ((min (nth k (some t)) 99 : Nat) : Int) := by
      split <;> omega
    simp [Builtin.min_, Builtin.min2, e]
  have hw : IntKind.i64.wrap ((min (nth k (some t)) 99 : Nat) : Int) = ((min (nth k (some t)) 99 : Nat) : Int) := by simp only [IntKind.wrap_i64]; omega
  clear hb
  go_enter Try.func51, Try.ntmps51
  go_wp2_with fail
  refine (refNum_any (after k (some t)) b w HB.out (Nat.le_trans (after_length k (some t)) (by simpa using Nat.le_trans hl (by decide)))).mono ?_
  rintro e w1 ⟨rfl, hr1, hb1⟩
  have H1 := Lib.hid hr1
  have G1 := Lib.hid hb1
  clear hr1 hb1
  rw [show (rnum (after k (some t))).1 = nth k (some t) from rfl]
  obtain ⟨q, hq⟩ : ∃ q : Nat, q = min (nth k (some t)) 99 := ⟨_, rfl⟩
  rw [← hq] at hmin hw
  have HQ := Lib.hid hq
  clear hq
  go_wp2_with fail
  go_ret
  exact ⟨by rw [HQ.out]; rfl, H1.out, G1.out⟩
theorem refNum_at (k : Nat) (r : Rd) (b : Nat) (w : World) (hb : IsRr w b (after k r)) (hl : (r.getD []).length ≤ 900000) :
    Calls Try.prog 52 #[.pointer (some ⟨b, 0, none⟩)] w fun e w' => e = .returned (.int .u64 (nth k r : Nat)) ∧ IsRr w' b (after (k + 1) r) ∧ But w.heap.size b w w' :=
  refNum_any (after k r) b w hb (Nat.le_trans (after_length k r) (Nat.le_trans hl (by decide)))
theorem refText_at (r : Rd) (b : Nat) (w : World) (hb : IsRr w b (after 5 r)) (hl : (r.getD []).length ≤ 900000) :
    Calls Try.prog 54 #[.pointer (some ⟨b, 0, none⟩)] w fun e w' => e = .returned (.string (bs (tail5 r).1)) ∧ IsRr w' b (tail5 r).2 ∧ But w.heap.size b w w' :=
  refText_any (after 5 r) b w hb (Nat.le_trans (after_length 5 r) (Nat.le_trans hl (by decide)))
/-- the document's memory: what it answers at N, the reader at b, the message at G; the entries lie behind B -/
structure RS (w : World) (N b G B : Nat) (M : Mg) (v : Value) (r : Rd) (W : World) : Prop where
  res : W.heap[N]? = some (.cells (mgCells zeroM (.slice none 0 0)) 27 (0, 0))
  msg : W.heap[G]? = some (.cells (mgCells M v) 27 (0, 0))
  rd : IsRr W b r
  own : W.ownsRow B 34 3 v M.es.length (entFlat M.es)
  below : Below w.heap.size w W
  ord : w.heap.size = N ∧ N < b ∧ N < G ∧ b ≠ G ∧ b < B ∧ G < B ∧ B ≤ W.heap.size
theorem RS.step {w W W' : World} {N b G B : Nat} {M : Mg} {v : Value} {r r' : Rd} (h : RS w N b G B M v r W) (hr : IsRr W' b r') (hb : But W.heap.size b W W') : RS w N b G B M v r' W' := by
  obtain ⟨h1, h2, h4, h5, h6, e0, e1, e2, e3, e4, e5, e6⟩ := h
  refine ⟨blk_but hb (blk_lt h1) (by omega) h1, blk_but hb (blk_lt h2) (by omega) h2, hr, own_but h5 hb (Nat.le_refl _) e4, ?_, e0, e1, e2, e3, e4, e5, Nat.le_trans e6 hb.size⟩
  exact h6.trans ((hb.mono (B' := w.heap.size) (by omega)).below (by omega))
theorem RS.drew {w W : World} {N b G B : Nat} {M : Mg} {v : Value} {r : Rd} (h : RS w N b G B M v r W) : RS w N b G B M v r W.drew :=
  ⟨h.res, h.msg, h.rd, h.own, h.below.drew, h.ord⟩
theorem RS.alloc {w W : World} {N b G B : Nat} {M : Mg} {v : Value} {r : Rd} (h : RS w N b G B M v r W) (o : Obj) : RS w N b G B M v r (W.alloc o) := by
  obtain ⟨h1, h2, h4, h5, h6, e0, e1, e2, e3, e4, e5, e6⟩ := h
  exact ⟨blk_alloc h1 _, blk_alloc h2 _, blk_alloc h4 _, own_alloc h5 _, h6.alloc h6.size _, e0, e1, e2, e3, e4, e5, by rw [World.size_alloc]; omega⟩
theorem RS.later {w W W' : World} {N b G B : Nat} {M : Mg} {v : Value} {r : Rd} (h : RS w N b G B M v r W) (hb : Below W.heap.size W W') : RS w N b G B M v r W' :=
  h.step (rr_below hb (blk_lt h.rd) h.rd) (but_of_below hb b)
/-- a store into one cell of the message -/
theorem RS.put {w W : World} {N b G B : Nat} {M M' : Mg} {v : Value} {r : Rd} (h : RS w N b G B M v r W) (i : Nat) (x : Value) (hm : (mgCells M v).setIfInBounds i x = mgCells M' v) (he : M'.es = M.es) : RS w N b G B M' v r (W.setCell ⟨G, i, none⟩ x) := by
  obtain ⟨h1, h2, h4, h5, h6, e0, e1, e2, e3, e4, e5, e6⟩ := h
  refine ⟨blk_other h1 (by show N ≠ G; omega) _, ?_, blk_other h4 (by show b ≠ G; omega) _, ?_, ?_, e0, e1, e2, e3, e4, e5, by rw [size_set]; exact e6⟩
  · rw [← hm]; exact blk_set h2 i x
  · rw [he]; exact own_set h5 _ e5 _
  · exact ((but_of_below h6 G).set i x).below (by omega)
theorem RS.far {w W W' : World} {N b G B : Nat} {M : Mg} {v : Value} {r : Rd} (h : RS w N b G B M v r W) (hg : W.grownBy W' v.ownBlock) (k : Nat) (hk : k < B) : W'.heap[k]? = W.heap[k]? :=
  hg.block k (Nat.lt_of_lt_of_le hk h.ord.2.2.2.2.2.2) (own_far h.own hk)
/-- behind an append, and the store -/
theorem RS.grown {w W W' : World} {N b G B : Nat} {M M' : Mg} {v v' : Value} {r : Rd} (h : RS w N b G B M v r W) (e : Ent) (hm : (mgCells M v).setIfInBounds 7 v' = mgCells M' v') (he : M'.es = M.es ++ [e]) (hg : W.grownBy W' v.ownBlock)
    (ho : W'.ownsRow B 34 3 v' (M.es.length + 1) (entFlat M.es ++ (entCells e).toList)) : RS w N b G B M' v' r (W'.setCell ⟨G, 7, none⟩ v') := by
  have hf := h.far hg
  obtain ⟨h1, h2, h4, h5, h6, e0, e1, e2, e3, e4, e5, e6⟩ := h
  refine ⟨blk_other ((hf _ (by omega)).trans h1) (by show N ≠ G; omega) _, ?_, blk_other ((hf _ e4).trans h4) (by show b ≠ G; omega) _, ?_, ?_, e0, e1, e2, e3, e4, e5, ?_⟩
  · rw [← hm]; exact blk_set ((hf _ e5).trans h2) 7 v'
  · have := own_set ho ⟨G, 7, none⟩ e5 v'
    rw [he, entFlat_snoc, List.length_append]
    exact this
  · have hb : Below w.heap.size W W' := ⟨hg.os, hg.tape, hg.output, hg.size, fun k hk => hf k (by omega)⟩
    exact ((but_of_below (h6.trans hb) G).set 7 v').below (by omega)
  · rw [size_set]; exact Nat.le_trans e6 hg.size
end Go.Proofs.Ytdemkcnhcgiheaa
