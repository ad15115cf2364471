/- The document's Decode answers what the plain law says. Conditions: the bytes are short, and so are the data of a message that may be. -/
import Derived.Test.YtdemkcnhcgiheaaRB
import Derived.Test.YtdemkcnhcgiheaaDD
namespace Go.Proofs.Ytdemkcnhcgiheaa
open Go.RowKit
theorem refDecode_any (s : Bs) (w : World) (h : Fine s) :
    Calls Try.prog 20 #[.string (bs s)] w fun e w' => ∃ v, e = .returned (.tuple #[.agg (mgCells (decB s).1 v), .int .i64 (decB s).2]) ∧ EntsAt w' v (decB s).1.es ∧ Below w.heap.size w w' := by
  cases ho : open_ s with
  | none =>
    refine (refDecode_none s w h.1 ho).mono ?_
    rintro e w' ⟨rfl, hb⟩
    have e1 : decB s = (zeroM, 8) := by unfold decB; rw [ho]
    rw [e1]
    exact ⟨_, rfl, EntsAt.nil _, hb⟩
  | some t =>
    refine refDecode_some s t w h.1 ho (by have := open_length ho; have := h.1; omega) (h.2 t ho) _ ?_ ?_
    · intro hg W' hb
      rw [dec_bad ho hg]
      exact ⟨_, rfl, EntsAt.nil _, hb⟩
    · intro hg v W' hb hv
      rw [dec_good ho hg]
      exact ⟨v, rfl, hv, hb⟩
end Go.Proofs.Ytdemkcnhcgiheaa
