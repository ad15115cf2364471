/- The words that the texts of this seat share: byte strings as lists, the numbers' bytes, a block of memory known whole. No condition. -/
import Derived.Test.YtdemkcnhcgiheaaRows
import Derived.Test.YtdemkcnhcgiheaaN
import Derived.WalkKit
import Derived.WalkSpells
import Derived.WalkLawsBesides
import Derived.Deep.QuietTactic
import Derived.BigQuiet
import Derived.Lib.Hide
import Derived.Laws.BytesArg
import Derived.Lib.ConvBytes
namespace Go.Proofs.Ytdemkcnhcgiheaa
open Go.RowKit

/-! ### strings as lists of bytes -/
def bs (l : List UInt8) : ByteArray := ⟨l.toArray⟩
theorem bs_toList (l : List UInt8) : (bs l).data.toList = l := rfl
theorem bs_of (s : ByteArray) : s = bs s.data.toList := rfl
@[go_sem] theorem bs_append (a b : List UInt8) : bs a ++ bs b = bs (a ++ b) := ByteArray.mk_append_mk a b
@[go_sem] theorem bs_size (l : List UInt8) : (bs l).size = l.length := rfl
theorem bs_lt {l : List UInt8} {i : Nat} (h : i < (bs l).size) : i < l.length := h
@[go_sem] theorem bs_get (l : List UInt8) (i : Nat) (h : i < (bs l).size) : (bs l)[i] = l[i]'(bs_lt h) := by
  show (bs l).data[i] = _
  exact (Array.getElem_toList h).symm
attribute [go_sem] List.getElem_cons_zero
@[go_sem] theorem bs_extract (l : List UInt8) (i j : Nat) : (bs l).extract i j = bs ((l.take j).drop i) := by
  have : ((bs l).extract i j).data.toList = (l.take j).drop i := by
    rw [ByteArray.data_extract]
    simp [bs, List.drop_take]
  rw [bs_of ((bs l).extract i j), this]
theorem bs_inj {a b : List UInt8} : bs a = bs b ↔ a = b := by
  constructor
  · intro h
    have := congrArg (fun s : ByteArray => s.data.toList) h
    simpa [bs] using this
  · rintro rfl; rfl
theorem bs_nil : (⟨#[]⟩ : ByteArray) = bs [] := rfl

theorem toList_loop (s : ByteArray) : ∀ (d i : Nat) (r : List UInt8), s.size - i = d → ByteArray.toList.loop s i r = r.reverse ++ s.data.toList.drop i
  | 0, i, r, h => by
    rw [ByteArray.toList.loop, if_neg (by omega), List.drop_eq_nil_of_le (by show s.data.size ≤ i; have : s.data.size = s.size := rfl; omega), List.append_nil]
  | d + 1, i, r, h => by
    have hi : i < s.data.toList.length := by show i < s.data.size; have : s.data.size = s.size := rfl; omega
    rw [ByteArray.toList.loop, if_pos (by omega), toList_loop s d (i + 1) _ (by omega), List.drop_eq_getElem_cons hi, List.reverse_cons, List.append_assoc]
    congr 2
    simp only [List.singleton_append, List.cons.injEq, and_true]
    show s.data[i]! = s.data.toList[i]
    rw [getElem!_pos s.data i hi]
    exact (Array.getElem_toList hi).symm
@[go_sem] theorem bs_all (l : List UInt8) : (bs l).toList = l := by
  have := toList_loop (bs l) _ 0 [] rfl
  simpa [ByteArray.toList, bs] using this

/-- one byte as a string -/
theorem conv_one (W : World) (n : Int) :
    (convert 47 9 (.slice (some ⟨W.heap.size, 0, none⟩) 1 1)).run Try.prog (W.alloc (.cells #[.int .u8 n] 5)) = .ok (.string (bs [UInt8.ofNat n.toNat])) (W.alloc (.cells #[.int .u8 n] 5)) := by
  have := run_convert_bytes_arg (P := Try.prog) (W.alloc (.cells #[.int .u8 n] 5)) 47 5 Try.underlying47 Try.underlying5 W.heap.size 0 1 1 [n] rfl (by
    intro i hi
    obtain rfl : i = 0 := by omega
    simp) 9 Try.underlying9
  exact this

/-! ### a block of memory, known whole -/
theorem blk_cell {w : World} {b : Nat} {cs : Array Value} {t : TypeId} {f : Nat × Nat} (h : w.heap[b]? = some (.cells cs t f)) (i : Nat) : w.cell? ⟨b, i, none⟩ = cs[i]? := by
  simp [World.cell?, h]
theorem blk_frozen {w : World} {b : Nat} {cs : Array Value} {t : TypeId} (h : w.heap[b]? = some (.cells cs t (0, 0))) (i : Nat) : w.frozen? ⟨b, i, none⟩ = false := by
  simp [World.frozen?, h]
theorem blk_lt {w : World} {b : Nat} {o : Obj} (h : w.heap[b]? = some o) : b < w.heap.size := by
  rcases Nat.lt_or_ge b w.heap.size with h1 | h1
  · exact h1
  · simp [Array.getElem?_eq_none h1] at h
theorem blk_new (w : World) (o : Obj) : (w.alloc o).heap[w.heap.size]? = some o := by
  show (w.heap.push o)[w.heap.size]? = _
  simp
theorem blk_alloc {w : World} {b : Nat} {o : Obj} (h : w.heap[b]? = some o) (o' : Obj) : (w.alloc o').heap[b]? = some o := by
  rw [Below.heap_alloc _ _ _ (blk_lt h)]; exact h
theorem blk_drew {w : World} {b : Nat} {o : Obj} (h : w.heap[b]? = some o) : w.drew.heap[b]? = some o := h
theorem blk_drewN {w : World} {b : Nat} {o : Obj} (h : w.heap[b]? = some o) (n : Nat) : (w.drewN n).heap[b]? = some o := h
theorem blk_set {w : World} {b : Nat} {cs : Array Value} {t : TypeId} {f : Nat × Nat} (h : w.heap[b]? = some (.cells cs t f)) (i : Nat) (v : Value) :
    (w.setCell ⟨b, i, none⟩ v).heap[b]? = some (.cells (cs.setIfInBounds i v) t f) := by
  simp [World.setCell, Array.getElem?_modify, h]
theorem blk_other {w : World} {b : Nat} {o : Obj} (h : w.heap[b]? = some o) {a : Addr} (ha : b ≠ a.block) (v : Value) : (w.setCell a v).heap[b]? = some o := by
  rw [Below.heap_setCell _ _ _ _ ha]; exact h
theorem blk_below {w w' : World} {B b : Nat} {o : Obj} (hb : Below B w w') (hB : b < B) (h : w.heap[b]? = some o) : w'.heap[b]? = some o := by
  rw [hb.block b hB]; exact h
theorem size_set (w : World) (a : Addr) (v : Value) : (w.setCell a v).heap.size = w.heap.size := by simp [World.setCell]

/-- Below block number B, but for block b, the world w' is as w was. -/
structure But (B b : Nat) (w w' : World) : Prop where
  os : w'.os = w.os
  tape : w'.tape = w.tape
  output : w'.output = w.output
  size : w.heap.size ≤ w'.heap.size
  block : ∀ k, k < B → k ≠ b → w'.heap[k]? = w.heap[k]?
theorem but_of_below {B : Nat} {w w' : World} (h : Below B w w') (b : Nat) : But B b w w' := ⟨h.os, h.tape, h.output, h.size, fun k hk _ => h.block k hk⟩
theorem But.trans {B b : Nat} {x y z : World} (h : But B b x y) (k : But B b y z) : But B b x z :=
  ⟨k.os.trans h.os, k.tape.trans h.tape, k.output.trans h.output, Nat.le_trans h.size k.size, fun i hi hb => (k.block i hi hb).trans (h.block i hi hb)⟩
theorem But.mono {B B' b : Nat} {w w' : World} (h : But B b w w') (hB : B' ≤ B) : But B' b w w' := ⟨h.os, h.tape, h.output, h.size, fun k hk hb => h.block k (Nat.lt_of_lt_of_le hk hB) hb⟩
theorem But.below {B b : Nat} {w w' : World} (h : But B b w w') (hB : B ≤ b) : Below B w w' := ⟨h.os, h.tape, h.output, h.size, fun k hk => h.block k hk (by omega)⟩
theorem But.drew {B b : Nat} {x w : World} (h : But B b x w) : But B b x w.drew := ⟨h.os, h.tape, h.output, h.size, h.block⟩
theorem But.drewN {B b : Nat} {x w : World} (h : But B b x w) (n : Nat) : But B b x (w.drewN n) := ⟨h.os, h.tape, h.output, h.size, h.block⟩
theorem But.alloc {B b : Nat} {x w : World} (h : But B b x w) (hB : B ≤ w.heap.size) (o : Obj) : But B b x (w.alloc o) :=
  h.trans (but_of_below ((Below.refl B w).alloc hB o) b)
theorem But.set {B b : Nat} {x w : World} (h : But B b x w) (i : Nat) (v : Value) : But B b x (w.setCell ⟨b, i, none⟩ v) :=
  h.trans ⟨rfl, rfl, rfl, by simp [World.setCell], fun k _ hk => Below.heap_setCell _ _ _ _ hk⟩
theorem But.setNew {B b : Nat} {x w : World} (h : But B b x w) {p : Addr} (hp : B ≤ p.block) (v : Value) : But B b x (w.setCell p v) :=
  h.trans (but_of_below ((Below.refl B w).setCell hp v) b)
theorem But.cell {B b : Nat} {w w' : World} (h : But B b w w') {p : Addr} (hp : p.block < B) (hb : p.block ≠ b) : w'.cell? p = w.cell? p := World.cell?_of_block (w := w) (h.block p.block hp hb)
theorem But.frozen {B b : Nat} {w w' : World} (h : But B b w w') {p : Addr} (hp : p.block < B) (hb : p.block ≠ b) : w'.frozen? p = w.frozen? p := World.frozen?_of_block (w := w) (h.block p.block hp hb)
theorem blk_but {w w' : World} {B b c : Nat} {o : Obj} (hb : But B b w w') (hB : c < B) (hc : c ≠ b) (h : w.heap[c]? = some o) : w'.heap[c]? = some o := by
  rw [hb.block c hB hc]; exact h

end Go.Proofs.Ytdemkcnhcgiheaa
