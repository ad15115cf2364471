/- The messages of RmsgKnown, in plain Lean: which may be, which may not; bytes of none. No condition. -/
import Derived.Test.YtdemkcnhcgiheaaMA
import Derived.Test.YtdemkcnhcgiheaaSA
namespace Go.Proofs.Ytdemkcnhcgiheaa
open Go.RowKit
def e5 : Ent := ⟨2, 5, [97]⟩
def e6 : Ent := ⟨3, 6, []⟩
def appM : Mg := ⟨3, 6, 0, 3, 4, 2, 4, [e5, e6], false, 0, 0, 0, 0, []⟩
def snapM : Mg := ⟨7, 1, 2, 9, 0, 0, 0, [], false, 0, 0, 5, 9, [115, 116, 97, 116, 101]⟩
def noM : Mg := ⟨2, 1, 2, 1099511627776, 0, 0, 0, [], true, 1099511627776, 1099511627776, 0, 0, []⟩
theorem app_check : checkB appM = true := by decide
theorem snap_check : checkB snapM = true := by decide
theorem no_check : checkB noM = true := by decide
theorem app_fit : appM.fit := ⟨by decide, by decide, by decide, by decide, by decide, by decide, by decide, by decide, fun e he => by
  simp only [appM, List.mem_cons, List.not_mem_nil, or_false] at he
  rcases he with rfl | rfl <;> exact ⟨by decide, by decide, by decide⟩, by decide, by decide⟩
theorem snap_fit : snapM.fit := ⟨by decide, by decide, by decide, by decide, by decide, by decide, by decide, by decide, fun e he => absurd he (by simp [snapM]), by decide, by decide⟩
theorem no_fit : noM.fit := ⟨by decide, by decide, by decide, by decide, by decide, by decide, by decide, by decide, fun e he => absurd he (by simp [noM]), by decide, by decide⟩
theorem app_small : appM.small := ⟨fun e he => by
  simp only [appM, List.mem_cons, List.not_mem_nil, or_false] at he
  rcases he with rfl | rfl <;> decide, by decide⟩
theorem snap_small : snapM.small := ⟨fun e he => absurd he (by simp [snapM]), by decide⟩
theorem no_small : noM.small := ⟨fun e he => absurd he (by simp [noM]), by decide⟩
theorem fine_enc {m : Mg} (hf : m.fit) (hs : m.small) (hck : checkB m = true) : Fine (encB m) := by
  have hff := checkB_facts hck
  have hok := hf.ok hs hff.2.2.2
  have hlay := layB_length hok hff.1 hff.2.1 hff.2.2.1
  have hpar := parse_lay m hf hff.1 hff.2.1 hff.2.2.1 hff.2.2.2
  rw [encB, if_pos hck]
  refine ⟨by rw [seal_length]; omega, fun t ho _ => ?_⟩
  rw [open_seal] at ho
  cases ho
  rw [hpar.1]; exact hs
/-! ### bytes of none -/
theorem bad_empty : decB [] = (zeroM, 8) := by decide
theorem bad_sealed0 : decB (seal_ []) = (zeroM, 4) := by
  rw [dec_bad (open_seal []) (by decide)]
theorem bad_sealed2 : decB (seal_ [5, 0, 1, 2, 0, 0, 3, 0, 2, 0, 0, 0, 0, 0]) = (zeroM, 4) := by
  rw [dec_bad (open_seal _) (by decide)]
theorem bad_sealed15 : decB (seal_ [5, 0, 1, 2, 0, 0, 3, 0, 0, 0, 0, 0, 0, 0, 0]) = (zeroM, 4) := by
  rw [dec_bad (open_seal _) (by decide)]
theorem bad_ent0 : (getE []).2 = 4 := by decide
theorem bad_ent4 : (getE [1, 2, 0, 0]).2 = 4 := by decide
end Go.Proofs.Ytdemkcnhcgiheaa
