/- Package crc: Sum of one string. Condition: the string is short. -/
import Derived.Test.YtdemkcnhcgiheaaG
namespace Go.Proofs.Ytdemkcnhcgiheaa
open Go.RowKit
theorem sum_step (R : Reg) (c : UInt8) : bits .xor .u8 ((R.toNat : Int) % 256) (c.toNat : Int) = (((UInt8.ofNat R.toNat ^^^ c).toNat : Nat) : Int) ∧
    bits .xor .u32 ((R.toNat : Int) / 256) ((tab (UInt8.ofNat R.toNat ^^^ c)).toNat : Int) = ((byteIn R c).toNat : Int) := by
  constructor
  · have h := u8_xor_nat (R.toNat % 256) c.toNat (by omega) c.toNat_lt
    rw [show ((R.toNat : Int) % (256 : Int)) = ((R.toNat % 256 : Nat) : Int) by omega, h, UInt8.toNat_xor, ofNat_toNat_mod]
  · rw [byteIn_tab]
    have hd : (R.toNat : Int) / (256 : Int) = ((R >>> 8).toNat : Int) := by
      rw [BitVec.toNat_ushiftRight, Nat.shiftRight_eq_div_pow]; omega
    rw [hd, u32_xor_nat _ _ (R >>> 8).isLt (tab _).isLt, BitVec.toNat_xor]
theorem not_u32 (X : Reg) : bits .xor .u32 4294967295 (X.toNat : Int) = ((~~~ X).toNat : Int) := by
  have := u32_xor_nat 4294967295 X.toNat (by decide) X.isLt
  rw [show (4294967295 : Int) = ((4294967295 : Nat) : Int) from rfl, this]
  congr 1
set_option maxRecDepth 100000 in
set_option maxHeartbeats 400000 in
theorem sum_any (l : Bs) (b c : Nat) (w : World) (hl : l.length ≤ 1000000) (hcell : w.cell? ⟨b, 0, none⟩ = some (.string (bs l))) :
    Calls Try.prog 55 #[.slice (some ⟨b, 0, none⟩) 1 c] w fun e w' => e = .returned (.int .u32 ((sum32 l).toNat : Int)) ∧ Below w.heap.size w w' := by
  have hbl : b < w.heap.size := block_lt_of_cell hcell
  go_enter Try.func55, Try.ntmps55
  go_wp2_with fail
  refine (table_any _).mono ?_
  rintro e w1 ⟨rfl, hb1⟩
  obtain ⟨cs, hcs⟩ : ∃ cs, cs = tabCells 256 := ⟨_, rfl⟩
  rw [← hcs]
  have hsz : cs.size = 256 := by rw [hcs]; exact tabCells_size _
  have hz : Try.zeroCells86.size = 256 := by kernel_rfl
  have hone : ∀ v ∈ cs.toList, v.oneCell' = true := by
    intro x hx
    rw [hcs] at hx
    simp only [tabCells, List.mem_map] at hx
    obtain ⟨i, _, rfl⟩ := hx
    split <;> rfl
  have hst := run_storeCells_from (P := Try.prog) w1.heap.size 86 cs.toList 0 _ _ (blk_new w1 (.cells Try.zeroCells86 86)) (by simp; omega) hone
  have hc2 : w1.cell? ⟨b, 0, none⟩ = some (.string (bs l)) := by rw [hb1.cell hbl]; exact hcell
  have hget : ∀ (d : UInt8), cs[d.toNat]? = some (regV (tab d)) := by
    intro d
    rw [hcs, tabCells_get _ _ d.toNat_lt, if_pos d.toNat_lt, UInt8.ofNat_toNat]
  have hlt1 := Nat.lt_of_lt_of_le hbl hb1.size
  have hT := setRow_heap _ _ _ (cs.toList).toArray _ _ (blk_new w1 (.cells Try.zeroCells86 86))
  have hB : Below w.heap.size w ((w1.alloc (.cells Try.zeroCells86 86)).setRow w1.heap.size (cs.toList).toArray) := by
    refine (hb1.trans (((Below.refl _ w1).alloc (Nat.le_refl _) _).mono hb1.size)).trans ⟨rfl, rfl, rfl, by simp, fun k hk => setRow_other _ _ _ _ (by have := hb1.size; omega)⟩
  have hc3 : ((w1.alloc (.cells Try.zeroCells86 86)).setRow w1.heap.size (cs.toList).toArray).cell? ⟨b, 0, none⟩ = some (.string (bs l)) := by
    rw [hB.cell hbl]; exact hcell
  simp only [List.take_zero, List.nil_append] at hst
  clear hcs hone hcell hb1 hc2
  generalize hW2 : (w1.alloc (.cells Try.zeroCells86 86)).setRow w1.heap.size (cs.toList).toArray = W2 at hst hT hB hc3
  clear hW2
  have H1 := Lib.hid hB
  have H2 := Lib.hid hT
  have H3 := Lib.hid hget
  clear hB hT hget
  have HF := blk_frozen H2.out 0
  go_wp2_with fail
  go_loopw [4, 11] (fun r i w' => (i = .int .i64 0 ∧ r = .int .u32 4294967295 ∧ w' = W2) ∨ (i = .int .i64 1 ∧ r = .int .u32 ((bytesIn (~~~ 0) l).toNat : Int) ∧ w' = W2)) (fun _ i _ => (2 - intOf i).toNat)
  case atStart => exact .inl ⟨rfl, rfl, rfl⟩
  case round =>
    rcases hrel with ⟨rfl, rfl, rfl⟩ | ⟨rfl, rfl, rfl⟩
    · go_wp2_with fail
      go_loop [4, 17] (fun r i => ∃ (k : Nat) (R : Reg), k ≤ l.length ∧ i = .int .i64 k ∧ r = .int .u32 (R.toNat : Int) ∧ Hid (R = bytesIn (~~~ 0) (l.take k))) (fun _ i => l.length - (intOf i).toNat)
      case atStart => exact ⟨0, ~~~ 0, by omega, rfl, rfl, rfl⟩
      case round =>
        obtain ⟨k, R, hk, rfl, rfl, hR⟩ := hrel
        by_cases hlt : k < l.length
        · have hRb := R.isLt
          obtain ⟨hx1, hx2⟩ := sum_step R l[k]
          have hd := (UInt8.ofNat R.toNat ^^^ l[k]).toNat_lt
          have hcell : wr.cell? ⟨w1.heap.size, (UInt8.ofNat R.toNat ^^^ l[k]).toNat, none⟩ = some (.int .u32 ((tab (UInt8.ofNat R.toNat ^^^ l[k])).toNat : Int)) := by
            rw [blk_cell H2.out]
            exact H3.out (UInt8.ofNat R.toNat ^^^ l[k])
          have hfin : bytesIn (~~~ 0) (l.take (k + 1)) = byteIn (bytesIn (~~~ 0) (l.take k)) l[k] := by
            rw [List.take_succ_eq_append_getElem hlt, bytesIn_append]; rfl
          rw [← hR.out] at hfin
          have HFN := Lib.hid hfin
          clear hfin
          generalize hdd : UInt8.ofNat R.toNat ^^^ l[k] = d at *
          clear hdd
          go_wp2_with fail
          exact ⟨⟨k + 1, byteIn R l[k], by omega, by go_num, rfl, HFN.out.symm⟩, by simp [intOf]; omega⟩
        · obtain rfl : k = l.length := by omega
          rw [List.take_length] at hR
          go_wp2_with fail
          refine ⟨.inr ⟨rfl, ?_, trivial⟩, by simp [intOf]⟩
          rw [← hR.out]
    · have hun := not_u32 (bytesIn (~~~ 0) l)
      have HX : Hid (~~~ bytesIn (~~~ 0) l = sum32 l) := rfl
      have hmax : IntKind.u32.max = 4294967295 := rfl
      have hsg : IntKind.u32.signed = false := rfl
      generalize bytesIn (~~~ 0) l = X at *
      go_wp2_with fail
      go_ret
      refine ⟨?_, H1.out⟩
      rw [← HX.out, BitVec.toNat_not]
      rfl
end Go.Proofs.Ytdemkcnhcgiheaa
