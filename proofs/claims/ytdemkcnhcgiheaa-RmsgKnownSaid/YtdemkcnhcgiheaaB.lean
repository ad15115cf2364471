/- What package wire lays: numbers and texts as bytes. Conditions: a number is one of 64 bits; the strings are short. -/
import Derived.Test.YtdemkcnhcgiheaaA
namespace Go.Proofs.Ytdemkcnhcgiheaa
open Go.RowKit
def u8s (l : Bs) : Array Value := (l.map fun b => Value.int .u8 b.toNat).toArray
theorem u8s_get (l : Bs) (i : Nat) (b : UInt8) (h : l[i]? = some b) : (u8s l)[i]? = some (.int .u8 b.toNat) := by simp [u8s, h]
theorem u8s_set (l : Bs) (i : Nat) (n : Int) (h0 : 0 ≤ n) (h1 : n < 256) : (u8s l).setIfInBounds i (.int .u8 n) = u8s (l.set i (UInt8.ofNat n.toNat)) := by
  simp only [u8s, List.setIfInBounds_toArray, List.map_set, ofNat_toNat_of_lt (show n.toNat < 256 by omega)]
  rw [Int.toNat_of_nonneg h0]
/-- an array of nine bytes, of which so many at the end are a number's last ones -/
def digs (a k n : Nat) : Bs := List.replicate a 0 ++ lows k n
theorem digs_set (a k n : Nat) : (digs (a + 1) k n).set a (UInt8.ofNat (n / 256 ^ k)) = digs a (k + 1) n := by
  rw [digs, List.replicate_succ', List.append_assoc, List.set_append_right _ _ (by simp)]
  simp [digs, lows]
theorem digs_head (a k n : Nat) (c : UInt8) : (digs (a + 1) k n).set a c = List.replicate a 0 ++ c :: lows k n := by
  rw [digs, List.replicate_succ', List.append_assoc, List.set_append_right _ _ (by simp)]
  simp
def PutRel (W : World) (g n : Nat) (v at_ : Value) (w' : World) : Prop :=
  ∃ (a k : Nat) (x : Int), a + 1 + k = 9 ∧ k ≤ nlen n ∧ v = .int .u64 x ∧ 0 ≤ x ∧ x < 18446744073709551616 ∧ Hid (x = ((n / 256 ^ k : Nat) : Int)) ∧ at_ = .int .i64 ((a : Int) + 1) ∧ Hid (w'.heap[g]? = some (.cells (u8s (digs (a + 1) k n)) 88 (0, 0))) ∧ Hid (Below W.heap.size W w')
/-- the bytes from a place on in a block of bytes, as a string -/
theorem conv_bytes (W : World) (g : Nat) (l : Bs) (t : TypeId) (f : Nat × Nat) (h : W.heap[g]? = some (.cells (u8s l) t f)) (o n c : Nat) (hn : o + n ≤ l.length) :
    (convert 47 9 (.slice (some ⟨g, o, none⟩) n c)).run Try.prog W = .ok (.string (bs ((l.drop o).take n))) W := by
  have := run_convert_bytes_arg (P := Try.prog) W 47 5 Try.underlying47 Try.underlying5 g o n c (((l.drop o).take n).map fun b => (b.toNat : Int)) (by simp; omega) (by
    intro i hi
    rw [blk_cell h, u8s_get _ _ (l[o + i]'(by omega)) (by simp)]
    simp [List.getD, hi]
    rw [List.getElem?_eq_getElem (by omega)]; simp) 9 Try.underlying9
  rw [this]
  simp only [strOfNums, List.map_map, bs]
  congr
  rw [List.map_congr_left (g := id) (by intro b _; simp)]
  simp
/-- 'b[i:]' of a variable of nine bytes -/
theorem slice_nine (g a : Nat) (h : a ≤ 8) (W : World) :
    (Instr.sliceAt 88 (.pointer (some ⟨g, 0, none⟩)) (some (.int .i64 (a : Int))) none none).run Try.prog W = .ok (.slice (some ⟨g, a, none⟩) (9 - a) (9 - a)) W := by
  have hl : Try.prog.arrayLen 88 = 9 := by kernel_rfl
  have he : Try.prog.elem 88 = 5 := by kernel_rfl
  have hs : (sizeOf (Try.prog.elem 88)).run Try.prog W = .ok 1 W := by rw [he]; kernel_rfl
  rw [run_sliceAt_array_l (P := Try.prog) W 88 ⟨g, 0, none⟩ (by rw [hl, he]; exact Try.underlying88) .i64 (a : Int) (by omega) (by rw [hl]; omega), hs, hl]
  simp only [Result.andThen, slicedAt, Int.toNat_natCast, if_neg (show ¬ 9 = a by omega), Nat.mul_one]
  simp [Addr.add]
  exact fun e => e.symm
set_option maxHeartbeats 400000 in
theorem put_any (l : List UInt8) (n : Nat) (w : World) (h1 : n < 18446744073709551616) (hc : l.length ≤ 1000000) (b : Nat) (c : Nat) (hcell : w.cell? ⟨b, 0, none⟩ = some (.int .u64 n)):
    Calls Try.prog 58 #[.string (bs l), .slice (some ⟨b, 0, none⟩) 1 c] w fun e w' => e = .returned (.string (bs (l ++ num n))) ∧ Below w.heap.size w w' := by
  have hconv := conv_one
  have h8 := nlen_64 h1
  go_enter Try.func58, Try.ntmps58
  go_wp2
  go_loopw [0, 11] (fun s i w' => (i = .int .i64 0 ∧ s = .string (bs l) ∧ w' = w) ∨ (i = .int .i64 1 ∧ s = .string (bs (l ++ num n)) ∧ Below w.heap.size w w')) (fun _ i _ => (2 - intOf i).toNat)
  case atStart => exact .inl ⟨rfl, rfl, rfl⟩
  case round =>
    rcases hrel with ⟨rfl, rfl, rfl⟩ | ⟨rfl, rfl, hb⟩
    · obtain ⟨wo, rfl⟩ : ∃ wo : World, wo = wr := ⟨_, rfl⟩
      by_cases hlt : (n : Int) < 248
      · go_wp2
        go_roundw
        case rel => 
          refine .inr ⟨rfl, ?_, (Below.refl _ _).alloc (Nat.le_refl _) _⟩
          rw [num, if_pos (by omega)]
        case measure => simp [intOf]
      · go_wp2
        go_loopw [6, 8] (PutRel wo wo.heap.size n) (fun v _ _ => (intOf v).toNat)
        case atStart => 
          refine ⟨8, 0, n, rfl, Nat.zero_le _, rfl, by omega, by omega, ?_, rfl, ?_, ?_⟩
          · show (n : Int) = _
            simp
          · exact blk_new _ _
          · exact (Below.refl _ _).alloc (Nat.le_refl _) _
        case round =>
          obtain ⟨a, k, x, hak, hk, rfl, hx0, hx1, hx, rfl, hg, hb⟩ := hrel
          have HK := Lib.hid hak; clear hak
          by_cases hz : 0 < x
          · have hk' : k < nlen n := by
              rw [nlen_more]; have := hx.out; omega
            obtain ⟨a, rfl⟩ : ∃ a', a = a' + 1 := ⟨a - 1, by have := HK.out; omega⟩
            have ha : a ≤ 7 := by have := HK.out; omega
            have hcg : wr.cell? ⟨wo.heap.size, a + 1, none⟩ = some (.int .u8 0) := by 
              rw [blk_cell hg.out, u8s_get _ _ 0]; rfl
              simp [digs, List.getElem?_append]
            have hfg := blk_frozen hg.out (a + 1)
            go_wp2
            refine ⟨⟨a, k + 1, x / 256, by have := HK.out; omega, hk', rfl, by omega, by omega, ?_, by go_num, ?_, ?_⟩, ?_⟩
            · show x / 256 = _
              rw [hx.out, Nat.pow_succ, ← Nat.div_div_eq_div_mul]; omega
            · show _ = _
              rw [blk_set hg.out, u8s_set _ _ _ (by omega) (by omega), ← digs_set]
              congr 4
              apply UInt8.toNat_inj.1
              rw [ofNat_toNat_mod, ofNat_toNat_mod]
              have := hx.out
              omega
            · exact hb.out.setCell (Nat.le_refl _) _
            · simp [intOf]; omega
          · have ha : a ≤ 7 := by have h1 := HK.out; have h2 := nlen_more k n; have h3 := hx.out; have h4 := nlen_pos (n := n) (by omega); omega
            have hcg : wr.cell? ⟨wo.heap.size, a, none⟩ = some (.int .u8 0) := by 
              rw [blk_cell hg.out, u8s_get _ _ 0]; rfl
              simp [digs, List.getElem?_append]
            have hfg := blk_frozen hg.out a
            have hsl := slice_nine wo.heap.size a (by omega)
            have hbl := blk_set hg.out a (.int .u8 (255 - (a : Int)))
            rw [u8s_set _ _ _ (by omega) (by omega), digs_head] at hbl
            have hcv := conv_bytes _ _ _ _ _ hbl a (9 - a) (9 - a) (by have := HK.out; simp [lows_length]; omega)
            have hkn : k = nlen n := by have h1 := HK.out; have h2 := nlen_more k n; have h3 := hx.out; omega
            have hfin : ((List.replicate a 0 ++ UInt8.ofNat (255 - (a : Int)).toNat :: lows k n).drop a).take (9 - a) = num n := by
              rw [List.drop_left' (by simp), List.take_of_length_le (by have := HK.out; simp [lows_length]; omega), num, if_neg (by omega), hkn]
              congr 2
              have := HK.out; omega
            rw [hfin] at hcv
            have HN := Lib.hid hkn
            clear hbl hfin hkn
            have hnl := num_length_le h1
            go_wp2
            go_roundw
            case rel => exact .inr ⟨rfl, rfl, hb.out.setCell (Nat.le_refl _) _⟩
            case measure => simp [intOf]
    · go_wp2
      go_ret
      exact ⟨rfl, hb⟩
set_option maxHeartbeats 400000 in
theorem putNum_any (l : List UInt8) (n : Nat) (w : World) (h1 : n < 18446744073709551616) (hc : l.length ≤ 1000000) :
    Calls Try.prog 28 #[.string (bs l), .int .u64 n] w fun e w' => e = .returned (.string (bs (l ++ num n))) ∧ Below w.heap.size w w' := by
  go_enter Try.func28, Try.ntmps28
  go_wp2_with fail
  refine (put_any l n _ h1 hc _ 1 (blk_cell (blk_new _ _) 0)).mono ?_
  rintro e w1 ⟨rfl, hb⟩
  have HB := Lib.hid (((Below.refl _ w).alloc (Nat.le_refl _) (.cells #[.int .u64 n] 22)).trans (hb.mono (by simp)))
  clear hb
  go_wp2
  go_ret
  exact ⟨rfl, HB.out⟩
set_option maxHeartbeats 400000 in
theorem putText_any (l t : List UInt8) (w : World) (hc : l.length ≤ 900000) (ht : t.length ≤ 90000) :
    Calls Try.prog 27 #[.string (bs l), .string (bs t)] w fun e w' => e = .returned (.string (bs (l ++ text t))) ∧ Below w.heap.size w w' := by
  go_enter Try.func27, Try.ntmps27
  go_wp2_with fail
  refine (put_any l t.length _ (by omega) (by omega) _ 1 (blk_cell (blk_new _ _) 0)).mono ?_
  rintro e w1 ⟨rfl, hb⟩
  have HB := Lib.hid (((Below.refl _ w).alloc (Nat.le_refl _) (.cells #[.int .u64 t.length] 22)).trans (hb.mono (by simp)))
  clear hb
  have hn := num_length_le (n := t.length) (by omega)
  go_wp2
  go_ret
  exact ⟨rfl, HB.out⟩
end Go.Proofs.Ytdemkcnhcgiheaa
