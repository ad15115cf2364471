/- Messages: numbers in a row, entries in memory, the bytes of a message; the one map of this program. -/
import Derived.Test.YtdemkcnhcgiheaaL
import Derived.MapKept
namespace Go.Proofs.Ytdemkcnhcgiheaa
open Go.RowKit
theorem map_up (W : World) (g : Nat) (hg : W.heap[g]? = some (.map #[] 0)) : (Instr.mapUpdate 78 (.map (some g)) (.bool true) (.int .u64 1)).run Try.prog W = .ok () { W with heap := W.heap.setIfInBounds g (.map #[{ key := .bool true, val := .int .u64 1, born := 0 }] 1) } := by
  have hc : ∀ (x : Bool) (w : World), (Instr.checkKey x 10000 4 (.bool true)).run Try.prog w = .ok () w := fun x w => by cases x <;> kernel_rfl
  have hf : ∀ w : World, (Instr.findKey 4 (.bool true) []).run Try.prog w = .ok none w := fun w => by kernel_rfl
  simp [Instr.mapUpdate, run_underlying Try.underlying78, MapKept.run_getObj_map hg, Result.andThen, hc, hf, MapKept.run_setObj_map _ hg]

theorem map_look (W : World) (b : Bool) (g : Nat) (h : W.heap[g]? = some (.map #[{ key := .bool true, val := .int .u64 1, born := 0 }] 1)) : (Instr.lookup 78 (.map (some g)) (.bool b) false).run Try.prog W = .ok (.int .u64 (b.toNat : Int)) W := by
  have hc : ∀ (x : Bool) (w : World), (Instr.checkKey x 10000 4 (.bool b)).run Try.prog w = .ok () w := fun x w => by cases b <;> cases x <;> kernel_rfl
  have hf : ∀ w : World, (Instr.findKey 4 (.bool b) [{ key := .bool true, val := .int .u64 1, born := 0 }]).run Try.prog w = .ok (if b then some (0, .int .u64 1) else none) w := fun w => by cases b <;> kernel_rfl
  have hz : ∀ w : World, (zeroValue 22).run Try.prog w = .ok (.int .u64 0) w := fun w => by kernel_rfl
  simp [Instr.lookup, Sem.run_bind, run_underlying Try.underlying78, MapKept.run_getObj_map h, Result.andThen, hc, hf]
  cases b
  · exact hz W
  · rfl
def u64s (l : List Nat) : Array Value := (l.map fun n : Nat => Value.int .u64 (n : Int)).toArray
def numsB (l : List Nat) : Bs := l.flatMap num
theorem numsB_length : ∀ l : List Nat, (∀ n ∈ l, n < 18446744073709551616) → (numsB l).length ≤ 9 * l.length
  | [], _ => by simp [numsB]
  | n :: l, h => by
    have h1 := num_length_le (h n (by simp))
    have h2 := numsB_length l (fun m hm => h m (by simp [hm]))
    simp only [numsB, List.flatMap_cons, List.length_append, List.length_cons] at h2 ⊢
    omega
theorem numsB_take (l : List Nat) (k : Nat) (h : k < l.length) : numsB (l.take (k + 1)) = numsB (l.take k) ++ num l[k] := by
  rw [List.take_succ_eq_append_getElem h, numsB, List.flatMap_append]; simp [numsB]
theorem u64s_get (l : List Nat) (k : Nat) (h : k < l.length) : (u64s l)[k]? = some (.int .u64 ((l[k] : Nat) : Int)) := by simp [u64s, h]
set_option maxHeartbeats 400000 in
theorem nums_any (s : Bs) (l : List Nat) (b : Nat) (w : World) (hb : w.heap[b]? = some (.cells (u64s l) 22 (0, 0))) (hl : ∀ n ∈ l, n < 18446744073709551616) (hn : l.length ≤ 8) (hs : s.length ≤ 900000) :
    Calls Try.prog 56 #[.string (bs s), .slice (some ⟨b, 0, none⟩) l.length l.length] w fun e w' => e = .returned (.string (bs (s ++ numsB l))) ∧ Below w.heap.size w w' := by
  have HB := Lib.hid hb
  have HL := Lib.hid hl
  clear hb hl
  go_enter Try.func56, Try.ntmps56
  go_wp2_with fail
  go_loopw [0, 9] (fun v i W => ∃ k : Nat, k ≤ l.length ∧ i = .int .i64 k ∧ v = .string (bs (s ++ numsB (l.take k))) ∧ Hid (Below w.heap.size w W)) (fun _ i _ => l.length - (intOf i).toNat)
  case atStart => exact ⟨0, by omega, rfl, by simp [numsB], Below.refl _ _⟩
  case round =>
    obtain ⟨k, hk, rfl, rfl, hB⟩ := hrel
    by_cases hlt : k < l.length
    · have hnn := HL.out l[k] (List.getElem_mem hlt)
      have hc : wr.cell? ⟨b, k, none⟩ = some (.int .u64 ((l[k] : Nat) : Int)) := by
        rw [hB.out.cell (p := ⟨b, k, none⟩) (blk_lt HB.out), blk_cell HB.out, u64s_get _ _ hlt]
      have hlen : (numsB (l.take k)).length ≤ 9 * 8 := by
        have := numsB_length (l.take k) (fun n hn => HL.out n (List.mem_of_mem_take hn))
        rw [List.length_take] at this
        omega
      have hnext := numsB_take l k hlt
      have HN := Lib.hid hnext
      clear hnext
      go_wp2_with fail
      refine (putNum_any (s ++ numsB (l.take k)) l[k] wr hnn (by simp; omega)).mono ?_
      rintro e w1 ⟨rfl, hb1⟩
      have HB1 := Lib.hid (hB.out.trans (hb1.mono hB.out.size))
      clear hb1
      go_wp2_with fail
      refine ⟨⟨k + 1, by omega, by go_num, ?_, HB1.out⟩, by simp [intOf]; omega⟩
      rw [HN.out]
    · obtain rfl : k = l.length := by omega
      rw [List.take_length]
      go_wp2_with fail
      go_ret
      exact ⟨rfl, hB.out⟩
/-! ### messages -/
structure Mg where
  k : Int
  f : Int
  t : Int
  term : Nat
  ix : Nat
  lt : Nat
  cm : Nat
  es : List Ent
  rj : Bool
  hi : Nat
  cx : Nat
  si : Nat
  st : Nat
  sd : Bs
deriving DecidableEq
/-- a message's fourteen cells, its entries at v -/
def mgCells (m : Mg) (v : Value) : Array Value :=
  #[.int .i64 m.k, .int .i64 m.f, .int .i64 m.t, .int .u64 (m.term : Int), .int .u64 (m.ix : Int), .int .u64 (m.lt : Int), .int .u64 (m.cm : Int), v, .bool m.rj, .int .u64 (m.hi : Int), .int .u64 (m.cx : Int), .int .u64 (m.si : Int), .int .u64 (m.st : Int), .string (bs m.sd)]
def entFlat (es : List Ent) : List Value := es.flatMap fun e => (entCells e).toList
theorem entFlat_length : ∀ es : List Ent, (entFlat es).length = es.length * 3
  | [] => rfl
  | e :: es => by
    have := entFlat_length es
    simp only [entFlat, List.flatMap_cons, List.length_append, List.length_cons] at this ⊢
    rw [this]; simp [entCells]; omega
theorem entFlat_get : ∀ (es : List Ent) (k : Nat) (h : k < es.length), (entFlat es)[k * 3]? = some (.int .u64 (es[k].t : Int)) ∧ (entFlat es)[k * 3 + 1]? = some (.int .u64 (es[k].i : Int)) ∧ (entFlat es)[k * 3 + 2]? = some (.string (bs es[k].d))
  | e :: es, 0, _ => by simp [entFlat, entCells]
  | e :: es, k + 1, h => by
    have hk : k < es.length := by simpa using h
    have h3 := entFlat_get es k hk
    have e1 : ∀ j, (entFlat (e :: es))[(k + 1) * 3 + j]? = (entFlat es)[k * 3 + j]? := by
      intro j
      simp only [entFlat, List.flatMap_cons]
      rw [List.getElem?_append_right (by simp [entCells]; omega)]
      congr 1
      simp [entCells]; omega
    exact ⟨(e1 0).trans h3.1, (e1 1).trans h3.2.1, (e1 2).trans h3.2.2⟩
/-- entries in memory of a call's own -/
def EntsAt (w : World) (v : Value) (es : List Ent) : Prop := w.ownsRow 0 34 3 v es.length (entFlat es)
theorem EntsAt.form {w : World} {v : Value} {es : List Ent} (h : EntsAt w v es) : (v = .slice none 0 0 ∧ es = []) ∨
    ∃ g cap, v = .slice (some ⟨g, 0, none⟩) es.length cap ∧ es.length ≤ cap ∧ g < w.heap.size ∧ ∀ k (_ : k < es.length), w.cell? ⟨g, k * 3, none⟩ = some (.int .u64 (es[k].t : Int)) ∧ w.cell? ⟨g, k * 3 + 1, none⟩ = some (.int .u64 (es[k].i : Int)) ∧ w.cell? ⟨g, k * 3 + 2, none⟩ = some (.string (bs es[k].d)) := by
  obtain ⟨_, h | ⟨g, cap, cur, rfl, _, hg, hn, hc, hs, ht⟩⟩ := h
  · exact .inl ⟨h.1, List.length_eq_zero_iff.1 h.2⟩
  · refine .inr ⟨g, cap, rfl, hn, blk_lt hg, fun k hk => ?_⟩
    have h3 := entFlat_get es k hk
    rw [← ht] at h3
    have e1 : ∀ j, j < 3 → w.cell? ⟨g, k * 3 + j, none⟩ = (cur.toList.take (es.length * 3))[k * 3 + j]? := by
      intro j hj
      rw [blk_cell hg, List.getElem?_take, if_pos (by omega)]
      simp
    exact ⟨(e1 0 (by omega)).trans h3.1, (e1 1 (by omega)).trans h3.2.1, (e1 2 (by omega)).trans h3.2.2⟩
theorem EntsAt.below {w w' : World} {B : Nat} {v : Value} {es : List Ent} (h : EntsAt w v es) (hb : Below B w w') (hB : w.heap.size ≤ B) : EntsAt w' v es := by
  obtain ⟨h1, h | ⟨g, cap, cur, hv, hg0, hg, r⟩⟩ := h
  · exact ⟨h1, .inl h⟩
  · exact ⟨h1, .inr ⟨g, cap, cur, hv, hg0, blk_below hb (Nat.lt_of_lt_of_le (blk_lt hg) hB) hg, r⟩⟩
theorem EntsAt.nil (w : World) : EntsAt w (.slice none 0 0) [] := ⟨rfl, .inl ⟨rfl, rfl⟩⟩
theorem EntsAt.form2 {w : World} {v : Value} {es : List Ent} (h : EntsAt w v es) : ∃ A cap, v = .slice A es.length cap ∧ es.length ≤ cap ∧ ∀ k (_ : k < es.length), ∃ g, A = some ⟨g, 0, none⟩ ∧ g < w.heap.size ∧
    w.cell? ⟨g, k * 3, none⟩ = some (.int .u64 (es[k].t : Int)) ∧ w.cell? ⟨g, k * 3 + 1, none⟩ = some (.int .u64 (es[k].i : Int)) ∧ w.cell? ⟨g, k * 3 + 2, none⟩ = some (.string (bs es[k].d)) := by
  rcases h.form with ⟨rfl, rfl⟩ | ⟨g, cap, rfl, hc, hg, hcell⟩
  · exact ⟨none, 0, rfl, Nat.le_refl _, fun k hk => absurd hk (Nat.not_lt_zero _)⟩
  · exact ⟨some ⟨g, 0, none⟩, cap, rfl, hc, fun k hk => ⟨g, rfl, hg, hcell k hk⟩⟩
def entsB (es : List Ent) : Bs := es.flatMap entB
theorem entsB_take (es : List Ent) (k : Nat) (h : k < es.length) : entsB (es.take (k + 1)) = entsB (es.take k) ++ entB es[k] := by
  rw [List.take_succ_eq_append_getElem h, entsB, List.flatMap_append]; simp [entsB]
theorem entsB_length : ∀ es : List Ent, (∀ e ∈ es, e.ok 3000) → (entsB es).length ≤ 3027 * es.length
  | [], _ => by simp [entsB]
  | e :: es, h => by
    have h1 := entB_length (h e (by simp)) (by omega)
    have h2 := entsB_length es (fun x hx => h x (by simp [hx]))
    simp only [entsB, List.flatMap_cons, List.length_append, List.length_cons] at h2 ⊢
    omega
/-- a message's bytes, without its seal -/
def layB (m : Mg) : Bs := numsB [m.k.toNat, m.f.toNat, m.t.toNat, m.term, m.ix, m.lt, m.cm, m.es.length] ++ (entsB m.es ++ (numsB [m.rj.toNat, m.hi, m.cx, m.si, m.st] ++ text m.sd))
/-- a message's numbers are of 64 bits, it is short -/
structure Mg.ok (m : Mg) : Prop where
  term : m.term < 18446744073709551616
  ix : m.ix < 18446744073709551616
  lt : m.lt < 18446744073709551616
  cm : m.cm < 18446744073709551616
  hi : m.hi < 18446744073709551616
  cx : m.cx < 18446744073709551616
  si : m.si < 18446744073709551616
  st : m.st < 18446744073709551616
  es : ∀ e ∈ m.es, e.ok 3000
  len : m.es.length ≤ 70
  sd : m.sd.length ≤ 3000
end Go.Proofs.Ytdemkcnhcgiheaa
