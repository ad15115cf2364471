/- Decode answers what the plain law says. Conditions: the bytes are short, and so are the data of a message that may be. -/
import Derived.Test.YtdemkcnhcgiheaaDC
namespace Go.Proofs.Ytdemkcnhcgiheaa
open Go.RowKit
theorem open_length {s t : Bs} (h : open_ s = some t) : t.length + 4 = s.length := by rw [open_some h, seal_length]
/-- what is asked of bytes that are decoded: the data of a message that may be are short -/
def Fine (s : Bs) : Prop := s.length ≤ 900000 ∧ ∀ t, open_ s = some t → checkB (parse t) = true → (parse t).small
theorem fine_short {s : Bs} (h : s.length ≤ 3004) : Fine s := ⟨by omega, fun t ho _ => parse_small t (by have := open_length ho; omega)⟩
theorem decode_any (s : Bs) (w : World) (h : Fine s) :
    Calls Try.prog 19 #[.string (bs s)] w fun e w' => ∃ v, e = .returned (.tuple #[.agg (mgCells (decB s).1 v), .int .i64 (decB s).2]) ∧ EntsAt w' v (decB s).1.es ∧ Below w.heap.size w w' := by
  cases ho : open_ s with
  | none =>
    refine (decode_none s w h.1 ho).mono ?_
    rintro e w' ⟨rfl, hb⟩
    have e1 : decB s = (zeroM, 8) := by unfold decB; rw [ho]
    rw [e1]
    exact ⟨_, rfl, EntsAt.nil _, hb⟩
  | some t =>
    refine decode_some s t w h.1 ho (by have := open_length ho; have := h.1; omega) (h.2 t ho) _ ?_ ?_
    · intro hg W' hb
      rw [dec_bad ho hg]
      exact ⟨_, rfl, EntsAt.nil _, hb⟩
    · intro hg v W' hb hv
      rw [dec_good ho hg]
      exact ⟨v, rfl, hv, hb⟩
end Go.Proofs.Ytdemkcnhcgiheaa
