/- Sealing and opening, by package crc and by the document. Condition: the strings are short. -/
import Derived.Test.YtdemkcnhcgiheaaH
namespace Go.Proofs.Ytdemkcnhcgiheaa
open Go.RowKit
theorem below_of_alloc {w w1 : World} {o : Obj} (hb : Below (w.alloc o).heap.size (w.alloc o) w1) : Below w.heap.size w w1 :=
  ((Below.refl _ w).alloc (Nat.le_refl _) o).trans (hb.mono (by simp))
theorem conv_four (W : World) (a b c d : Int) (ha : 0 ≤ a ∧ a < 256) (hb : 0 ≤ b ∧ b < 256) (hc : 0 ≤ c ∧ c < 256) (hd : 0 ≤ d ∧ d < 256) :
    (convert 47 9 (.slice (some ⟨W.heap.size, 0, none⟩) 4 4)).run Try.prog (W.alloc (.cells #[.int .u8 a, .int .u8 b, .int .u8 c, .int .u8 d] 5)) =
      .ok (.string (bs [UInt8.ofNat a.toNat, UInt8.ofNat b.toNat, UInt8.ofNat c.toNat, UInt8.ofNat d.toNat])) (W.alloc (.cells #[.int .u8 a, .int .u8 b, .int .u8 c, .int .u8 d] 5)) := by
  have hcell : ∀ x : Int, 0 ≤ x ∧ x < 256 → Value.int .u8 x = .int .u8 ((UInt8.ofNat x.toNat).toNat : Int) := by
    intro x hx
    rw [ofNat_toNat_of_lt (by omega)]
    congr 1; omega
  have h := blk_new W (.cells #[.int .u8 a, .int .u8 b, .int .u8 c, .int .u8 d] 5)
  have e : (#[.int .u8 a, .int .u8 b, .int .u8 c, .int .u8 d] : Array Value) = u8s [UInt8.ofNat a.toNat, UInt8.ofNat b.toNat, UInt8.ofNat c.toNat, UInt8.ofNat d.toNat] := by
    rw [hcell a ha, hcell b hb, hcell c hc, hcell d hd]; rfl
  rw [e] at h ⊢
  exact conv_bytes _ _ _ _ _ h 0 4 4 (by simp)
theorem le4_ints (x : Reg) : [UInt8.ofNat ((x.toNat : Int) % 256).toNat, UInt8.ofNat ((x.toNat : Int) / 256 % 256).toNat, UInt8.ofNat ((x.toNat : Int) / 65536 % 256).toNat, UInt8.ofNat ((x.toNat : Int) / 16777216).toNat] = le4 x := by
  have h : ∀ n m : Nat, m = n % 256 → UInt8.ofNat m = UInt8.ofNat n := by
    intro n m h
    apply UInt8.toNat_inj.1
    rw [ofNat_toNat_mod, ofNat_toNat_mod]; omega
  unfold le4
  rw [h x.toNat ((x.toNat : Int) % 256).toNat (by omega), h (x.toNat / 256) ((x.toNat : Int) / 256 % 256).toNat (by omega), h (x.toNat / 65536) ((x.toNat : Int) / 65536 % 256).toNat (by omega), h (x.toNat / 16777216) ((x.toNat : Int) / 16777216).toNat (by have := x.isLt; omega)]
set_option maxHeartbeats 400000 in
theorem seal_any (l : Bs) (w : World) (hl : l.length ≤ 900000) :
    Calls Try.prog 23 #[.string (bs l)] w fun e w' => e = .returned (.string (bs (seal_ l))) ∧ Below w.heap.size w w' := by
  go_enter Try.func23, Try.ntmps23
  go_wp2_with fail
  refine (sum_any l _ 1 _ (by omega) (blk_cell (blk_new _ _) 0)).mono ?_
  rintro e w1 ⟨rfl, hb⟩
  have HB := Lib.hid (below_of_alloc hb)
  clear hb
  have hfin : l ++ le4 (sum32 l) = seal_ l := rfl
  have hx := (sum32 l).isLt
  have hle := le4_ints (sum32 l)
  have HF := Lib.hid hfin
  have HL := Lib.hid hle
  clear hfin hle
  generalize sum32 l = x at *
  have hcv := conv_four w1 ((x.toNat : Int) % 256) ((x.toNat : Int) / 256 % 256) ((x.toNat : Int) / 65536 % 256) ((x.toNat : Int) / 16777216) (by omega) (by omega) (by omega) (by omega)
  rw [HL.out] at hcv
  have h4 := le4_length x
  go_wp2_with fail
  go_ret
  exact ⟨by rw [← HF.out]; rfl, HB.out.alloc HB.out.size _⟩
/-- what Open hands back -/
def openV (l : Bs) : Value := .tuple #[.string (bs ((open_ l).getD [])), .bool (open_ l).isSome]
set_option maxHeartbeats 400000 in
theorem open_any (l : Bs) (w : World) (hl : l.length ≤ 900000) :
    Calls Try.prog 38 #[.string (bs l)] w fun e w' => e = .returned (openV l) ∧ Below w.heap.size w w' := by
  by_cases h4 : l.length < 4
  · have ho : open_ l = none := by unfold open_; rw [if_neg (by omega)]
    unfold openV
    rw [ho]
    have h5 : ((l.length : Int) < 4) := by omega
    go_enter Try.func38, Try.ntmps38
    go_wp2_with fail
    go_ret2
    exact ⟨rfl, Below.refl _ _⟩
  · have h5 : (4 : Int) ≤ l.length := by omega
    have hsub : ((l.length : Int) - 4).toNat = l.length - 4 := by omega
    by_cases he : seal_ (l.take (l.length - 4)) = l
    · have ho : open_ l = some (l.take (l.length - 4)) := by unfold open_; rw [if_pos ⟨by omega, he⟩]
      unfold openV
      rw [ho]
      have HE := Lib.hid he
      clear he ho
      go_enter Try.func38, Try.ntmps38
      go_wp2_with fail
      refine (seal_any _ w (by rw [List.length_take]; omega)).mono ?_
      rintro e w1 ⟨rfl, hb⟩
      rw [HE.out]
      have HB := Lib.hid hb
      clear hb
      go_wp2_with fail
      go_ret2
      exact ⟨rfl, HB.out⟩
    · have ho : open_ l = none := by unfold open_; rw [if_neg (fun h => he h.2)]
      unfold openV
      rw [ho]
      have hne : (seal_ (l.take (l.length - 4)) == l) = false := by simpa using he
      clear he ho
      go_enter Try.func38, Try.ntmps38
      go_wp2_with fail
      refine (seal_any _ w (by rw [List.length_take]; omega)).mono ?_
      rintro e w1 ⟨rfl, hb⟩
      generalize seal_ (l.take (l.length - 4)) = x at *
      have HB := Lib.hid hb
      clear hb
      go_wp2_with fail
      go_ret2
      exact ⟨rfl, HB.out⟩
/-! ### the document's sum -/
theorem regBits_succ (R : Reg) (c : UInt8) (k : Nat) : bitsIn R ((List.range (k + 1)).map fun i => c.toNat.testBit i) = bitIn (bitsIn R ((List.range k).map fun i => c.toNat.testBit i)) (c.toNat.testBit k) := by
  simp only [List.range_succ, List.map_append, List.map_cons, List.map_nil, bitsIn_append]; rfl
theorem ref_odd (X : Reg) (c : UInt8) (j : Nat) : (bits .and .u32 (X.toNat : Int) 1 != bits .and .u32 ((c.toNat : Int) / 2 ^ j % 4294967296) 1) = (X ^^^ ofBit (c.toNat.testBit j)).getLsbD 0 := by
  have h1 : bits .and .u32 (X.toNat : Int) 1 = (((X.getLsbD 0).toNat : Nat) : Int) := by
    rw [show (1 : Int) = ((1 : Nat) : Int) from rfl, u32_and_nat _ _ X.isLt (by decide), Nat.and_one_is_mod, BitVec.getLsbD, Nat.toNat_testBit]
    simp
  have hc := c.toNat_lt
  have hd : c.toNat / 2 ^ j < 4294967296 := Nat.lt_of_le_of_lt (Nat.div_le_self _ _) (by omega)
  have h2 : bits .and .u32 ((c.toNat : Int) / 2 ^ j % 4294967296) 1 = (((c.toNat.testBit j).toNat : Nat) : Int) := by
    have e : ((c.toNat : Int) / 2 ^ j % 4294967296) = ((c.toNat / 2 ^ j : Nat) : Int) := by
      have e1 : ((c.toNat : Int) / 2 ^ j) = ((c.toNat / 2 ^ j : Nat) : Int) := by simp
      rw [e1]
      generalize c.toNat / 2 ^ j = y at *
      omega
    rw [e, show (1 : Int) = ((1 : Nat) : Int) from rfl, u32_and_nat _ _ hd (by decide), Nat.and_one_is_mod, Nat.toNat_testBit]
  rw [h1, h2, BitVec.getLsbD_xor, ofBit_bit]
  cases X.getLsbD 0 <;> cases c.toNat.testBit j <;> decide
theorem ref_even (X : Reg) (b : Bool) (h : (X ^^^ ofBit b).getLsbD 0 = false) : (X.toNat : Int) / 2 = ((bitIn X b).toNat : Int) := by
  have hs : (X ^^^ ofBit b) >>> 1 = X >>> 1 := by
    rw [BitVec.ushiftRight_xor_distrib]
    cases b <;> simp [ofBit]
  unfold bitIn stp
  rw [h, hs]
  have hd : (X.toNat : Int) / (2 : Int) = ((X >>> 1).toNat : Int) := by
    rw [BitVec.toNat_ushiftRight, Nat.shiftRight_eq_div_pow]; omega
  exact hd
theorem ref_one (X : Reg) (b : Bool) (h : (X ^^^ ofBit b).getLsbD 0 = true) : bits .xor .u32 ((X.toNat : Int) / 2) 2197175160 = ((bitIn X b).toNat : Int) := by
  have hs : (X ^^^ ofBit b) >>> 1 = X >>> 1 := by
    rw [BitVec.ushiftRight_xor_distrib]
    cases b <;> simp [ofBit]
  unfold bitIn stp
  rw [h, hs, if_pos rfl]
  have hd : (X.toNat : Int) / (2 : Int) = ((X >>> 1).toNat : Int) := by
    rw [BitVec.toNat_ushiftRight, Nat.shiftRight_eq_div_pow]; omega
  rw [hd, show (2197175160 : Int) = ((2197175160 : Nat) : Int) from rfl, u32_xor_nat (X >>> 1).toNat 2197175160 (X >>> 1).isLt (by decide), BitVec.toNat_xor]
  rfl
set_option maxHeartbeats 400000 in
theorem refSum_any (l : Bs) (w : World) (hl : l.length ≤ 1000000) :
    Calls Try.prog 57 #[.string (bs l)] w fun e w' => e = .returned (.int .u32 ((sum32 l).toNat : Int)) ∧ w = w' := by
  have hmax : IntKind.u32.max = 4294967295 := rfl
  have hsg : IntKind.u32.signed = false := rfl
  go_enter Try.func57, Try.ntmps57
  go_wp2_with fail
  go_loop [3, 4] (fun r i => ∃ (k : Nat) (R : Reg), k ≤ l.length ∧ i = .int .i64 k ∧ r = .int .u32 (R.toNat : Int) ∧ Hid (R = bytesIn (~~~ 0) (l.take k))) (fun _ i => l.length - (intOf i).toNat)
  case atStart => exact ⟨0, ~~~ 0, by omega, rfl, rfl, rfl⟩
  case round =>
    obtain ⟨k, R, hk, rfl, rfl, hR⟩ := hrel
    by_cases hlt : k < l.length
    · have hfin : bytesIn (~~~ 0) (l.take (k + 1)) = byteIn (bytesIn (~~~ 0) (l.take k)) l[k] := by
        rw [List.take_succ_eq_append_getElem hlt, bytesIn_append]; rfl
      rw [← hR.out] at hfin
      have HFN := Lib.hid hfin
      have hcl := l[k].toNat_lt
      clear hfin hR
      obtain ⟨c, hc⟩ : ∃ c, l[k] = c := ⟨_, rfl⟩
      rw [hc] at HFN hcl
      go_wp2_with fail
      go_loop [3, 5] (fun r i => ∃ (j : Nat) (X : Reg), j ≤ 8 ∧ i = .int .i64 j ∧ r = .int .u32 (X.toNat : Int) ∧ Hid (X = bitsIn R ((List.range j).map fun i => c.toNat.testBit i))) (fun _ i => 8 - (intOf i).toNat)
      case atStart => exact ⟨0, R, by omega, rfl, rfl, rfl⟩
      case round =>
        obtain ⟨j, X, hj, rfl, rfl, hX⟩ := hrel
        by_cases hj8 : j < 8
        · have hXb := X.isLt
          go_wp2_with fail
          · have ht : (bits .and .u32 (X.toNat : Int) 1 != bits .and .u32 ((c.toNat : Int) / 2 ^ j % 4294967296) 1) = true := by assumption
            rw [ref_odd] at ht
            exact ⟨⟨j + 1, bitIn X (c.toNat.testBit j), by omega, by go_num, by rw [ref_one _ _ ht], by rw [regBits_succ, ← hX.out]; rfl⟩, by simp [intOf]; omega⟩
          · have ht : (bits .and .u32 (X.toNat : Int) 1 != bits .and .u32 ((c.toNat : Int) / 2 ^ j % 4294967296) 1) = false := by assumption
            rw [ref_odd] at ht
            exact ⟨⟨j + 1, bitIn X (c.toNat.testBit j), by omega, by go_num, by rw [ref_even _ _ ht], by rw [regBits_succ, ← hX.out]; rfl⟩, by simp [intOf]; omega⟩
        · obtain rfl : j = 8 := by omega
          go_wp2_with fail
          exact ⟨⟨k + 1, X, by omega, by go_num, rfl, by rw [hX.out]; exact HFN.out.symm⟩, by simp [intOf]; omega⟩
    · obtain rfl : k = l.length := by omega
      rw [List.take_length] at hR
      have hun := not_u32 R
      go_wp2_with fail
      go_ret
      refine ⟨?_, rfl⟩
      have : ~~~ R = sum32 l := by rw [hR.out]; rfl
      rw [← this, BitVec.toNat_not]
      rfl
set_option maxHeartbeats 400000 in
theorem refSeal_any (l : Bs) (w : World) (hl : l.length ≤ 900000) :
    Calls Try.prog 25 #[.string (bs l)] w fun e w' => e = .returned (.string (bs (seal_ l))) ∧ Below w.heap.size w w' := by
  go_enter Try.func25, Try.ntmps25
  go_wp2_with fail
  refine (refSum_any l w (by omega)).mono ?_
  rintro e w1 ⟨rfl, rfl⟩
  have hfin : l ++ le4 (sum32 l) = seal_ l := rfl
  have hx := (sum32 l).isLt
  have hle := le4_ints (sum32 l)
  have HF := Lib.hid hfin
  have HL := Lib.hid hle
  clear hfin hle
  generalize sum32 l = x at *
  have hcv := conv_four w ((x.toNat : Int) % 256) ((x.toNat : Int) / 256 % 256) ((x.toNat : Int) / 65536 % 256) ((x.toNat : Int) / 16777216) (by omega) (by omega) (by omega) (by omega)
  rw [HL.out] at hcv
  have h4 := le4_length x
  go_wp2_with fail
  go_ret
  exact ⟨by rw [← HF.out]; rfl, (Below.refl _ _).alloc (Nat.le_refl _) _⟩
set_option maxHeartbeats 400000 in
theorem refOpen_any (l : Bs) (w : World) (hl : l.length ≤ 900000) :
    Calls Try.prog 50 #[.string (bs l)] w fun e w' => e = .returned (openV l) ∧ Below w.heap.size w w' := by
  by_cases h4 : l.length < 4
  · have ho : open_ l = none := by unfold open_; rw [if_neg (by omega)]
    unfold openV
    rw [ho]
    have h5 : ((l.length : Int) < 4) := by omega
    go_enter Try.func50, Try.ntmps50
    go_wp2_with fail
    go_ret2
    exact ⟨rfl, Below.refl _ _⟩
  · have h5 : (4 : Int) ≤ l.length := by omega
    have hsub : ((l.length : Int) - 4).toNat = l.length - 4 := by omega
    by_cases he : seal_ (l.take (l.length - 4)) = l
    · have ho : open_ l = some (l.take (l.length - 4)) := by unfold open_; rw [if_pos ⟨by omega, he⟩]
      unfold openV
      rw [ho]
      have HE := Lib.hid he
      clear he ho
      go_enter Try.func50, Try.ntmps50
      go_wp2_with fail
      refine (refSeal_any _ w (by rw [List.length_take]; omega)).mono ?_
      rintro e w1 ⟨rfl, hb⟩
      rw [HE.out]
      have HB := Lib.hid hb
      clear hb
      go_wp2_with fail
      go_ret2
      exact ⟨rfl, HB.out⟩
    · have ho : open_ l = none := by unfold open_; rw [if_neg (fun h => he h.2)]
      unfold openV
      rw [ho]
      have hne : (seal_ (l.take (l.length - 4)) == l) = false := by simpa using he
      clear he ho
      go_enter Try.func50, Try.ntmps50
      go_wp2_with fail
      refine (refSeal_any _ w (by rw [List.length_take]; omega)).mono ?_
      rintro e w1 ⟨rfl, hb⟩
      generalize seal_ (l.take (l.length - 4)) = x at *
      have HB := Lib.hid hb
      clear hb
      go_wp2_with fail
      go_ret2
      exact ⟨rfl, HB.out⟩
end Go.Proofs.Ytdemkcnhcgiheaa
