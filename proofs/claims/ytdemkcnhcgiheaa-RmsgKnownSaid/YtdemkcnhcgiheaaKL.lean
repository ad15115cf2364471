/- What RmsgKnown leans on: rows, makes, its refused messages. No condition. -/
import Derived.Test.YtdemkcnhcgiheaaKP
import Derived.Deep.RegionHeld3
import Derived.Deep.OwnRows
import Derived.Deep.AppendLies
import Derived.OwnWalk
namespace Go.Proofs.Ytdemkcnhcgiheaa
open Go.RowKit
theorem appM_cells (v : Value) : mgCells appM v = #[.int .i64 3, .int .i64 6, .int .i64 0, .int .u64 3, .int .u64 4, .int .u64 2, .int .u64 4, v, .bool false, .int .u64 0, .int .u64 0, .int .u64 0, .int .u64 0, .string ⟨#[]⟩] := by kernel_rfl
theorem snapM_cells (v : Value) : mgCells snapM v = #[.int .i64 7, .int .i64 1, .int .i64 2, .int .u64 9, .int .u64 0, .int .u64 0, .int .u64 0, v, .bool false, .int .u64 0, .int .u64 0, .int .u64 5, .int .u64 9, .string ⟨#[115, 116, 97, 116, 101]⟩] := by kernel_rfl
theorem noM_cells (v : Value) : mgCells noM v = #[.int .i64 2, .int .i64 1, .int .i64 2, .int .u64 1099511627776, .int .u64 0, .int .u64 0, .int .u64 0, v, .bool true, .int .u64 1099511627776, .int .u64 1099511627776, .int .u64 0, .int .u64 0, .string ⟨#[]⟩] := by kernel_rfl
/-- the worlds in which the three messages stand -/
structure KC (w : World) (E a b c : Nat) (W : World) : Prop where
  e : W.heap[E]? = some (.cells #[.int .u64 2, .int .u64 5, .string ⟨#[97]⟩, .int .u64 3, .int .u64 6, .string ⟨#[]⟩] 34 (0, 0))
  a : W.heap[a]? = some (.cells #[.int .i64 3, .int .i64 6, .int .i64 0, .int .u64 3, .int .u64 4, .int .u64 2, .int .u64 4, .slice (some ⟨E, 0, none⟩) 2 2, .bool false, .int .u64 0, .int .u64 0, .int .u64 0, .int .u64 0, .string ⟨#[]⟩] 27 (0, 0))
  b : W.heap[b]? = some (.cells #[.int .i64 7, .int .i64 1, .int .i64 2, .int .u64 9, .int .u64 0, .int .u64 0, .int .u64 0, .slice none 0 0, .bool false, .int .u64 0, .int .u64 0, .int .u64 5, .int .u64 9, .string ⟨#[115, 116, 97, 116, 101]⟩] 27 (0, 0))
  c : W.heap[c]? = some (.cells #[.int .i64 2, .int .i64 1, .int .i64 2, .int .u64 1099511627776, .int .u64 0, .int .u64 0, .int .u64 0, .slice none 0 0, .bool true, .int .u64 1099511627776, .int .u64 1099511627776, .int .u64 0, .int .u64 0, .string ⟨#[]⟩] 27 (0, 0))
  below : Below w.heap.size w W
theorem KC.step {w W W' : World} {E a b c : Nat} (k : KC w E a b c W) (hb : Below W.heap.size W W') : KC w E a b c W' :=
  ⟨blk_below hb (blk_lt k.e) k.e, blk_below hb (blk_lt k.a) k.a, blk_below hb (blk_lt k.b) k.b, blk_below hb (blk_lt k.c) k.c, k.below.trans (hb.mono k.below.size)⟩
theorem KC.drew {w W : World} {E a b c : Nat} (k : KC w E a b c W) : KC w E a b c W.drew := ⟨k.e, k.a, k.b, k.c, k.below.drew⟩
theorem KC.alloc {w W : World} {E a b c : Nat} (k : KC w E a b c W) (o : Obj) : KC w E a b c (W.alloc o) := k.step ((Below.refl _ W).alloc (Nat.le_refl _) o)
theorem KC.ents {w W : World} {E a b c : Nat} (k : KC w E a b c W) : EntsAt W (.slice (some ⟨E, 0, none⟩) 2 2) appM.es :=
  ⟨rfl, .inr ⟨E, 2, _, rfl, Nat.zero_le _, k.e, Nat.le_refl _, by decide, rfl, rfl⟩⟩
/-- the four messages in a row -/
def four (E : Nat) : Array Value := #[.int .i64 3, .int .i64 6, .int .i64 0, .int .u64 3, .int .u64 4, .int .u64 2, .int .u64 4, .slice (some ⟨E, 0, none⟩) 2 2, .bool false, .int .u64 0, .int .u64 0, .int .u64 0, .int .u64 0, .string ⟨#[]⟩, .int .i64 7, .int .i64 1, .int .i64 2, .int .u64 9, .int .u64 0, .int .u64 0, .int .u64 0, .slice none 0 0, .bool false, .int .u64 0, .int .u64 0, .int .u64 5, .int .u64 9, .string ⟨#[115, 116, 97, 116, 101]⟩, .int .i64 2, .int .i64 1, .int .i64 2, .int .u64 1099511627776, .int .u64 0, .int .u64 0, .int .u64 0, .slice none 0 0, .bool true, .int .u64 1099511627776, .int .u64 1099511627776, .int .u64 0, .int .u64 0, .string ⟨#[]⟩, .int .i64 5, .int .i64 0, .int .i64 1, .int .u64 2, .int .u64 0, .int .u64 0, .int .u64 3, .slice none 0 0, .bool false, .int .u64 0, .int .u64 0, .int .u64 0, .int .u64 0, .string ⟨#[]⟩]
theorem grown_below {W W' : World} {r : Nat} (h : W.grownBy W' (some r)) (hr : r ≤ W.heap.size) : Below r W W' :=
  ⟨h.os, h.tape, h.output, h.size, fun k hk => h.block k (Nat.lt_of_lt_of_le hk hr) (by intro e; cases e; exact Nat.lt_irrefl _ hk)⟩
theorem own_cells {w : World} {B n cap g : Nat} {e : TypeId} {sz : Nat} {xs : List Value} (h : w.ownsRow B e sz (.slice (some ⟨g, 0, none⟩) n cap) n xs) : B ≤ g ∧ ∀ j u, xs[j]? = some u → w.cell? ⟨g, j, none⟩ = some u ∧ w.frozen? ⟨g, j, none⟩ = false := by
  obtain ⟨h1, ⟨h, _⟩ | ⟨g', cap', cur, hv, hg0, hg, hn, hc, hs, ht⟩⟩ := h
  · cases h
  · cases hv
    refine ⟨hg0, fun j u hu => ⟨?_, blk_frozen hg j⟩⟩
    rw [blk_cell hg, ← hu, ← ht, List.getElem?_take]
    have hj : j < xs.length := by
      rcases Nat.lt_or_ge j xs.length with hj | hj
      · exact hj
      · rw [List.getElem?_eq_none hj] at hu; cases hu
    rw [if_pos (by omega)]
    simp
theorem own_setIn {w : World} {B n cap g : Nat} {e : TypeId} {sz : Nat} {xs : List Value} (h : w.ownsRow B e sz (.slice (some ⟨g, 0, none⟩) n cap) n xs) (j : Nat) (u : Value) : (w.setCell ⟨g, j, none⟩ u).ownsRow B e sz (.slice (some ⟨g, 0, none⟩) n cap) n (xs.set j u) := by
  obtain ⟨h1, ⟨h, _⟩ | ⟨g', cap', cur, hv, hg0, hg, hn, hc, hs, ht⟩⟩ := h
  · cases h
  · cases hv
    refine ⟨by rw [List.length_set]; exact h1, .inr ⟨g, cap, cur.setIfInBounds j u, rfl, hg0, blk_set hg j u, hn, hc, by rw [Array.size_setIfInBounds]; exact hs, ?_⟩⟩
    rw [Array.toList_setIfInBounds, ← ht, List.take_set]
theorem ents_one : ∀ u ∈ (#[.int .u64 2, .int .u64 5, .string ⟨#[97]⟩, .int .u64 3, .int .u64 6, .string ⟨#[]⟩] : Array Value).toList, u.oneCell' = true := by
  intro u hu
  simp only [List.mem_cons, List.not_mem_nil, or_false] at hu
  rcases hu with rfl | rfl | rfl | rfl | rfl | rfl <;> rfl
theorem fill_make (n : Nat) (hn : n ≤ 1000000) (Zs : Bs) (hZ : Zs = List.replicate n 0) (W : World) : (Instr.makeSlice 47 (.int .i64 (n : Int)) (.int .i64 (n : Int))).run Try.prog W = .ok (.slice (some ⟨W.heap.size, 0, none⟩) n n) (W.alloc (.cells (u8s Zs) 5)) := by
  have h := run_make_row' (P := Try.prog) 47 5 (.int .u8 0) 1 Try.underlying47 (by kernel_rfl) rfl .i64 .i64 n (by omega) (by omega) W
  rw [h, hZ]
  have e : madeCells #[Value.int .u8 0] n = u8s (List.replicate n 0) := by
    apply Array.ext
    · simp [madeCells, u8s]
    · intro i h1 h2
      simp [madeCells, u8s, Nat.mod_one]
  rw [e]
theorem fill_conv (n : Nat) (Zs : Bs) (hZ : Zs.length = n) (W : World) (g : Nat) (h : W.heap[g]? = some (.cells (u8s Zs) 5 (0, 0))) : (convert 47 9 (.slice (some ⟨g, 0, none⟩) n n)).run Try.prog W = .ok (.string (bs Zs)) W := by
  have := conv_bytes W g Zs 5 (0, 0) h 0 n n (by omega)
  rwa [List.drop_zero, List.take_of_length_le (by omega)] at this
def mk0 : Mg := ⟨0, 6, 0, 3, 4, 2, 4, [e5, e6], false, 0, 0, 0, 0, []⟩
theorem mk0_no : checkB mk0 = false := by decide
theorem mk0_fit : mk0.fit := ⟨by decide, by decide, by decide, by decide, by decide, by decide, by decide, by decide, fun e he => by
  simp only [mk0, List.mem_cons, List.not_mem_nil, or_false] at he
  rcases he with rfl | rfl <;> exact ⟨by decide, by decide, by decide⟩, by decide, by decide⟩
def mk1 : Mg := ⟨8, 6, 0, 3, 4, 2, 4, [e5, e6], false, 0, 0, 0, 0, []⟩
theorem mk1_no : checkB mk1 = false := by decide
theorem mk1_fit : mk1.fit := ⟨by decide, by decide, by decide, by decide, by decide, by decide, by decide, by decide, fun e he => by
  simp only [mk1, List.mem_cons, List.not_mem_nil, or_false] at he
  rcases he with rfl | rfl <;> exact ⟨by decide, by decide, by decide⟩, by decide, by decide⟩
def mk2 : Mg := ⟨3, 7, 0, 3, 4, 2, 4, [e5, e6], false, 0, 0, 0, 0, []⟩
theorem mk2_no : checkB mk2 = false := by decide
theorem mk2_fit : mk2.fit := ⟨by decide, by decide, by decide, by decide, by decide, by decide, by decide, by decide, fun e he => by
  simp only [mk2, List.mem_cons, List.not_mem_nil, or_false] at he
  rcases he with rfl | rfl <;> exact ⟨by decide, by decide, by decide⟩, by decide, by decide⟩
def mk3 : Mg := ⟨3, 6, -1, 3, 4, 2, 4, [e5, e6], false, 0, 0, 0, 0, []⟩
theorem mk3_no : checkB mk3 = false := by decide
theorem mk3_fit : mk3.fit := ⟨by decide, by decide, by decide, by decide, by decide, by decide, by decide, by decide, fun e he => by
  simp only [mk3, List.mem_cons, List.not_mem_nil, or_false] at he
  rcases he with rfl | rfl <;> exact ⟨by decide, by decide, by decide⟩, by decide, by decide⟩
def mk4 : Mg := ⟨3, 6, 6, 3, 4, 2, 4, [e5, e6], false, 0, 0, 0, 0, []⟩
theorem mk4_no : checkB mk4 = false := by decide
theorem mk4_fit : mk4.fit := ⟨by decide, by decide, by decide, by decide, by decide, by decide, by decide, by decide, fun e he => by
  simp only [mk4, List.mem_cons, List.not_mem_nil, or_false] at he
  rcases he with rfl | rfl <;> exact ⟨by decide, by decide, by decide⟩, by decide, by decide⟩
def mk5 : Mg := ⟨3, 6, 0, 0, 4, 2, 4, [e5, e6], false, 0, 0, 0, 0, []⟩
theorem mk5_no : checkB mk5 = false := by decide
theorem mk5_fit : mk5.fit := ⟨by decide, by decide, by decide, by decide, by decide, by decide, by decide, by decide, fun e he => by
  simp only [mk5, List.mem_cons, List.not_mem_nil, or_false] at he
  rcases he with rfl | rfl <;> exact ⟨by decide, by decide, by decide⟩, by decide, by decide⟩
def mk6 : Mg := ⟨3, 6, 0, 1099511627777, 4, 2, 4, [e5, e6], false, 0, 0, 0, 0, []⟩
theorem mk6_no : checkB mk6 = false := by decide
theorem mk6_fit : mk6.fit := ⟨by decide, by decide, by decide, by decide, by decide, by decide, by decide, by decide, fun e he => by
  simp only [mk6, List.mem_cons, List.not_mem_nil, or_false] at he
  rcases he with rfl | rfl <;> exact ⟨by decide, by decide, by decide⟩, by decide, by decide⟩
def mk7 : Mg := ⟨3, 6, 0, 3, 5, 2, 4, [e5, e6], false, 0, 0, 0, 0, []⟩
theorem mk7_no : checkB mk7 = false := by decide
theorem mk7_fit : mk7.fit := ⟨by decide, by decide, by decide, by decide, by decide, by decide, by decide, by decide, fun e he => by
  simp only [mk7, List.mem_cons, List.not_mem_nil, or_false] at he
  rcases he with rfl | rfl <;> exact ⟨by decide, by decide, by decide⟩, by decide, by decide⟩
def mk8 : Mg := ⟨3, 6, 0, 3, 4, 2, 1099511627777, [e5, e6], false, 0, 0, 0, 0, []⟩
theorem mk8_no : checkB mk8 = false := by decide
theorem mk8_fit : mk8.fit := ⟨by decide, by decide, by decide, by decide, by decide, by decide, by decide, by decide, fun e he => by
  simp only [mk8, List.mem_cons, List.not_mem_nil, or_false] at he
  rcases he with rfl | rfl <;> exact ⟨by decide, by decide, by decide⟩, by decide, by decide⟩
def mk14 : Mg := ⟨3, 6, 0, 3, 4, 2, 4, [e5, e6], false, 0, 0, 1, 0, []⟩
theorem mk14_no : checkB mk14 = false := by decide
theorem mk14_fit : mk14.fit := ⟨by decide, by decide, by decide, by decide, by decide, by decide, by decide, by decide, fun e he => by
  simp only [mk14, List.mem_cons, List.not_mem_nil, or_false] at he
  rcases he with rfl | rfl <;> exact ⟨by decide, by decide, by decide⟩, by decide, by decide⟩
def mk15 : Mg := ⟨5, 6, 0, 3, 4, 2, 4, [e5, e6], false, 0, 0, 0, 0, []⟩
theorem mk15_no : checkB mk15 = false := by decide
theorem mk15_fit : mk15.fit := ⟨by decide, by decide, by decide, by decide, by decide, by decide, by decide, by decide, fun e he => by
  simp only [mk15, List.mem_cons, List.not_mem_nil, or_false] at he
  rcases he with rfl | rfl <;> exact ⟨by decide, by decide, by decide⟩, by decide, by decide⟩
def mk9 : Mg := ⟨3, 6, 0, 3, 4, 2, 4, [⟨0, 5, [97]⟩, e6], false, 0, 0, 0, 0, []⟩
theorem mk9_no : checkB mk9 = false := by decide
theorem mk9_fit : mk9.fit := ⟨by decide, by decide, by decide, by decide, by decide, by decide, by decide, by decide, fun e he => by
  simp only [mk9, List.mem_cons, List.not_mem_nil, or_false] at he
  rcases he with rfl | rfl <;> exact ⟨by decide, by decide, by decide⟩, by decide, by decide⟩
def mk10 : Mg := ⟨3, 6, 0, 3, 4, 2, 4, [e5, ⟨1, 6, []⟩], false, 0, 0, 0, 0, []⟩
theorem mk10_no : checkB mk10 = false := by decide
theorem mk10_fit : mk10.fit := ⟨by decide, by decide, by decide, by decide, by decide, by decide, by decide, by decide, fun e he => by
  simp only [mk10, List.mem_cons, List.not_mem_nil, or_false] at he
  rcases he with rfl | rfl <;> exact ⟨by decide, by decide, by decide⟩, by decide, by decide⟩
def mk11 : Mg := ⟨3, 6, 0, 3, 4, 2, 4, [e5, ⟨4, 6, []⟩], false, 0, 0, 0, 0, []⟩
theorem mk11_no : checkB mk11 = false := by decide
theorem mk11_fit : mk11.fit := ⟨by decide, by decide, by decide, by decide, by decide, by decide, by decide, by decide, fun e he => by
  simp only [mk11, List.mem_cons, List.not_mem_nil, or_false] at he
  rcases he with rfl | rfl <;> exact ⟨by decide, by decide, by decide⟩, by decide, by decide⟩
def mk12 : Mg := ⟨3, 6, 0, 3, 4, 2, 4, [e5, ⟨3, 7, []⟩], false, 0, 0, 0, 0, []⟩
theorem mk12_no : checkB mk12 = false := by decide
theorem mk12_fit : mk12.fit := ⟨by decide, by decide, by decide, by decide, by decide, by decide, by decide, by decide, fun e he => by
  simp only [mk12, List.mem_cons, List.not_mem_nil, or_false] at he
  rcases he with rfl | rfl <;> exact ⟨by decide, by decide, by decide⟩, by decide, by decide⟩
def mk16 : Mg := ⟨7, 1, 2, 9, 0, 0, 0, [], false, 0, 0, 5, 10, [115, 116, 97, 116, 101]⟩
theorem mk16_no : checkB mk16 = false := by decide
theorem mk16_fit : mk16.fit := ⟨by decide, by decide, by decide, by decide, by decide, by decide, by decide, by decide, fun e he => absurd he (by simp [mk16]), by decide, by decide⟩
def mk17 : Mg := ⟨7, 1, 2, 9, 0, 0, 0, [], false, 0, 0, 0, 9, [115, 116, 97, 116, 101]⟩
theorem mk17_no : checkB mk17 = false := by decide
theorem mk17_fit : mk17.fit := ⟨by decide, by decide, by decide, by decide, by decide, by decide, by decide, by decide, fun e he => absurd he (by simp [mk17]), by decide, by decide⟩
def mk13 (Zs : Bs) : Mg := ⟨3, 6, 0, 3, 4, 2, 4, [⟨2, 5, Zs⟩, e6], false, 0, 0, 0, 0, []⟩
theorem mk13_no {Zs : Bs} (h : Zs.length = 20001) : checkB (mk13 Zs) = false := by simp [checkB, chk3, riseB, mk13, h]
theorem mk13_fit {Zs : Bs} (h : Zs.length = 20001) : (mk13 Zs).fit := ⟨by simp [mk13], by simp [mk13], by simp [mk13], by simp [mk13], by simp [mk13], by simp [mk13], by simp [mk13], by simp [mk13], fun e he => by
  simp only [mk13, List.mem_cons, List.not_mem_nil, or_false] at he
  rcases he with rfl | rfl
  · exact ⟨by simp, by simp, by show Zs.length ≤ 1000000; omega⟩
  · exact ⟨by decide, by decide, by decide⟩, by show (2 : Nat) ≤ 1000000; decide, by simp [mk13]⟩
def mk18 (Zs : Bs) : Mg := ⟨7, 1, 2, 9, 0, 0, 0, [], false, 0, 0, 5, 9, Zs⟩
theorem mk18_no {Zs : Bs} (h : Zs.length = 60001) : checkB (mk18 Zs) = false := by simp [checkB, chk4, mk18, h]
theorem mk18_fit {Zs : Bs} (h : Zs.length = 60001) : (mk18 Zs).fit := ⟨by simp [mk18], by simp [mk18], by simp [mk18], by simp [mk18], by simp [mk18], by simp [mk18], by simp [mk18], by simp [mk18], fun e he => absurd he (by simp [mk18]), by simp [mk18], by show Zs.length ≤ 1000000; omega⟩
end Go.Proofs.Ytdemkcnhcgiheaa
