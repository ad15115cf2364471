/- Package crc: the bits of a byte, as an iterator hands them out. Condition: a byte is below 256. -/
import Derived.Test.YtdemkcnhcgiheaaB
import Derived.Test.YtdemkcnhcgiheaaK
import Derived.RangeFuncNested
import Derived.RangeFuncBound
import Derived.RangeFuncCalls
import Derived.RangeFuncLeaves
import Derived.Shelf.Abstract
import Derived.Shelf.RegionOpen
import Derived.OwnWalkIn
import Derived.TacticsInMore
import Derived.LoopNIn
import Derived.LoopIn
namespace Go.Proofs.Ytdemkcnhcgiheaa
open Go.RowKit Go.Shelf
attribute [local go_sem] Oper.semAt_some
theorem bits_any (c : Int) (w : World) : Calls Try.prog 65 #[.int .u8 c] w fun e w' => e = .returned (.func (.func 66) #[] #[.pointer (some ⟨w.heap.size, 0, none⟩)]) ∧ w' = w.alloc (.cells #[.int .u8 c] 5 (0, 0)) := by
  go_enter Try.func65, Try.ntmps65
  go_wp2
  have hmf : ∀ (fn : Fn) (first cap : Array Value) (w : World), (Instr.makeFunc fn first cap).run Try.prog w = .ok (.func fn first cap) w := fun _ _ _ _ => rfl
  go_wp2
  go_ret
  exact ⟨rfl, rfl⟩
set_option maxHeartbeats 400000 in
theorem bits1_in (n l Bn : Nat) (hn : 1 ≤ n) (c : Nat) (hc : c < 256) (J J2 : Nat → World → Prop)
    (hY : ∀ k W, k < 8 → J k W → YieldAt Fence.wide (n - 1) Try.prog l #[.int .u32 ((c / 2 ^ k % 2 : Nat) : Int)] W fun e W' => e = .returned (.bool true) ∧ J2 k W')
    (hJ : ∀ k W, J k W → W.cell? ⟨Bn, 0, none⟩ = some (.int .u8 ((c / 2 ^ k : Nat) : Int)))
    (hJ2 : ∀ k W, J2 k W → W.cell? ⟨Bn, 0, none⟩ = some (.int .u8 ((c / 2 ^ k : Nat) : Int)) ∧ W.frozen? ⟨Bn, 0, none⟩ = false ∧ J (k + 1) (W.setCell ⟨Bn, 0, none⟩ (.int .u8 ((c / 2 ^ (k + 1) : Nat) : Int))))
    (W : World) (h0 : J 0 W) :
    CallsIn Fence.wide n Try.prog 66 #[.func (.yield l) #[] #[], .pointer (some ⟨Bn, 0, none⟩)] W fun e W' => (∃ v, e = .returned v) ∧ J 8 W' := by
  refine callsIn_of_wp Try.func66 rfl trivial ?_ rfl
  simp only [Try.ntmps66, List.size_toArray, List.length_cons, List.length_nil, Nat.reduceAdd, Nat.reduceSub, Array.replicate_succ, Array.replicate_zero, List.push_toArray, List.append_toArray, List.nil_append, List.cons_append]
  gi_wp2
  gi_loopw [3] (fun i W => ∃ k : Nat, k ≤ 8 ∧ i = .int .i64 k ∧ J k W) (fun i _ => 8 - (intOf i).toNat)
  case atStart => exact ⟨0, by omega, rfl, h0⟩
  case round =>
    obtain ⟨k, hk, rfl, hj⟩ := hrel
    by_cases hlt : k < 8
    · have hcell := hJ k _ hj
      obtain ⟨fn, tmps, assign, body, hy, hR⟩ := hY k _ hlt hj
      have hb := Nat.lt_of_le_of_lt (Nat.div_le_self c (2 ^ k)) hc
      have hdiv : c / 2 ^ (k + 1) = c / 2 ^ k / 2 := by rw [Nat.pow_succ, Nat.div_div_eq_div_mul]
      have HY : ∀ e W', (e = Ending.returned (.bool true) ∧ J2 k W') → e = Ending.returned (.bool true) ∧ W'.cell? ⟨Bn, 0, none⟩ = some (.int .u8 ((c / 2 ^ k : Nat) : Int)) ∧ W'.frozen? ⟨Bn, 0, none⟩ = false ∧ Hid (J (k + 1) (W'.setCell ⟨Bn, 0, none⟩ (.int .u8 ((c / 2 ^ k / 2 : Nat) : Int)))) := by
        rintro e W' ⟨he, h⟩
        have := hJ2 k W' h
        rw [hdiv] at this
        exact ⟨he, this⟩
      clear hdiv hJ hJ2 hY hj
      generalize c / 2 ^ k = x at *
      have hm : x % 2 < 2 := by omega
      have hand : bits .and .u8 (x : Int) 1 = ((x % 2 : Nat) : Int) := by
        have := bits_mask .u8 8 (by decide) wraps_u8 1 (by decide) (x : Int) (by omega) (by omega)
        simpa using this
      have hmod : ((x % 2 : Nat) : Int) % 4294967296 = ((x % 2 : Nat) : Int) := by omega
      generalize x % 2 = m at *
      gi_wp2
      refine hR.mono ?_
      intro e W' hp
      obtain ⟨rfl, hc2, hf2, hj⟩ := HY e W' hp
      clear HY hp
      gi_wp2
      refine ⟨⟨k + 1, by omega, by go_num, ?_⟩, by simp [intOf]; omega⟩
      rw [show ((x : Int) / 2) = ((x / 2 : Nat) : Int) by omega]
      exact hj.out
    · obtain rfl : k = 8 := by omega
      clear hY hJ hJ2
      gi_wp2
      go_end0
      exact ⟨⟨_, rfl⟩, hj⟩
end Go.Proofs.Ytdemkcnhcgiheaa
