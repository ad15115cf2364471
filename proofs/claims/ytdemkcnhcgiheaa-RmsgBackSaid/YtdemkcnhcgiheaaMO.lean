/- A message that came in, opened: its cells, its entries. No condition. -/
import Derived.Test.YtdemkcnhcgiheaaLA
import Derived.Deep.Slices
import Derived.Deep.Strs
import Derived.ProofKit
import Derived.OpenShut
namespace Go.Proofs.Ytdemkcnhcgiheaa
open Go.RowKit Go.WideShapes
theorem cells3 : Try.prog.cellsOf 3 = 1 := by kernel_rfl
theorem cells4 : Try.prog.cellsOf 4 = 1 := by kernel_rfl
theorem cells9 : Try.prog.cellsOf 9 = 1 := by kernel_rfl
theorem cells22 : Try.prog.cellsOf 22 = 1 := by kernel_rfl
theorem cells23 : Try.prog.cellsOf 23 = 1 := by kernel_rfl
theorem cells25 : Try.prog.cellsOf 25 = 3 := by kernel_rfl
theorem cells34 : Try.prog.cellsOf 34 = 3 := by kernel_rfl
theorem cells27 : Try.prog.cellsOf 27 = 14 := by kernel_rfl
section
variable {H : Type} {enc : TypeId × Value → H} {w : World} {base fuel : Nat} {spare : Nat → Bool} {held : Bool}
theorem num_cell {v : Value} {x : DataW H × List MemPlace} (h : DataW.trod enc Try.prog w base spare held fuel 22 [v] = some x) : ∃ n : Nat, v = .int .u64 (n : Int) ∧ n < 18446744073709551616 := by
  obtain ⟨n, e, _, hw⟩ := DataW.trod_int Try.underlying22 h
  have hb := bounds_u64 hw
  refine ⟨n.toNat, ?_, by omega⟩
  rw [Int.toNat_of_nonneg hb.1]
  simpa using e
theorem int_cell {v : Value} {x : DataW H × List MemPlace} (h : DataW.trod enc Try.prog w base spare held fuel 3 [v] = some x) : ∃ n : Int, v = .int .i64 n := by
  obtain ⟨n, e, _, _⟩ := DataW.trod_int Try.underlying3 h
  exact ⟨n, by simpa using e⟩
theorem bool_cell {v : Value} {x : DataW H × List MemPlace} (h : DataW.trod enc Try.prog w base spare held fuel 4 [v] = some x) : ∃ b : Bool, v = .bool b := by
  obtain ⟨b, e, _⟩ := DataW.trod_bool Try.underlying4 h
  exact ⟨b, by simpa using e⟩
theorem text_cell {v : Value} {x : DataW H × List MemPlace} (h : DataW.trod enc Try.prog w base spare held fuel 9 [v] = some x) : ∃ l : Bs, v = .string (bs l) := by
  obtain ⟨s, e, _, _⟩ := DataW.trod_string Try.underlying9 h
  exact ⟨s.data.toList, by rw [← bs_of]; simpa using e⟩
/-- an entry's three cells -/
theorem ent_cells {cs : List Value} {x : DataW H × List MemPlace} (h : DataW.trod enc Try.prog w base spare held fuel 34 cs = some x) : ∃ e : Ent, e.t < 18446744073709551616 ∧ e.i < 18446744073709551616 ∧ cs = [.int .u64 (e.t : Int), .int .u64 (e.i : Int), .string (bs e.d)] := by
  obtain ⟨y0, y1, y2, n, _, hl, h0, h1, h2⟩ := Go.Deep.trod_struct3 Try.underlying34 h
  rw [cells34] at hl
  match cs, hl with
  | [a, b, c], _ =>
    obtain ⟨t, rfl, ht⟩ := num_cell (v := a) (by simpa [cells22] using h0)
    obtain ⟨i, rfl, hi⟩ := num_cell (v := b) (by simpa [cells22] using h1)
    obtain ⟨d, rfl⟩ := text_cell (v := c) (by simpa [cells9] using h2)
    exact ⟨⟨t, i, d⟩, ht, hi, rfl⟩
instance : Inhabited Ent := ⟨⟨0, 0, []⟩⟩
/-- the entries' slice -/
theorem ents_cell {v : Value} {x : DataW H × List MemPlace} (hsp : ∀ b, spare b = true) (h : DataW.trod enc Try.prog w 0 spare held fuel 23 [v] = some x) :
    ∃ es : List Ent, ArgEnts w v es ∧ ∀ e ∈ es, e.t < 18446744073709551616 ∧ e.i < 18446744073709551616 := by
  rcases Go.Deep.open_slice Try.underlying23 h with ⟨e, _⟩ | ⟨a, len, cap, m, n, D, Pl, e, _, hlc, _, hm, _, hx⟩
  · have e : v = .slice none 0 0 := by simpa using e
    subst e
    exact ⟨[], ⟨none, 0, rfl, fun k hk => absurd hk (Nat.not_lt_zero _)⟩, fun e he => absurd he (by simp)⟩
  · have e : v = .slice (some a) len cap := by simpa using e
    subst e
    rw [if_pos (hsp _)] at hm
    subst hm
    obtain ⟨E, hE⟩ := Go.Deep.choose_lt (α := Ent) (n := len) (p := fun i y => (y.t < 18446744073709551616 ∧ y.i < 18446744073709551616) ∧ w.cells? 0 (a.add (i * 3)) 3 = some [.int .u64 (y.t : Int), .int .u64 (y.i : Int), .string (bs y.d)]) (fun i hi => by
      obtain ⟨cs', h1, h2⟩ := hx i (by omega)
      obtain ⟨y, h3, h4, h5⟩ := ent_cells h2
      rw [cells34] at h1
      exact ⟨y, ⟨h3, h4⟩, by rw [h1, h5]⟩)
    have hlen : ((List.range len).map E).length = len := by simp
    refine ⟨(List.range len).map E, ⟨some a, _, by rw [hlen], fun k hk => ?_⟩, fun y hy => ?_⟩
    · rw [hlen] at hk
      obtain ⟨_, hc⟩ := hE k hk
      obtain ⟨_, hc0⟩ := hE 0 (by omega)
      obtain ⟨_, _, hcell⟩ := World.cells?_some hc
      obtain ⟨_, _, hcell0⟩ := World.cells?_some hc0
      obtain ⟨b, off, spot⟩ := a
      have hspot : spot = none := by
        have := hcell0 0 (by decide)
        simpa [Addr.add] using World.cell?_spot this
      subst hspot
      have g0 := hcell 0 (by decide)
      have g1 := hcell 1 (by decide)
      have g2 := hcell 2 (by decide)
      rw [add_plain, add_plain] at g0 g1 g2
      have ek : ((List.range len).map E)[k]'(by rw [hlen]; exact hk) = E k := by simp
      refine ⟨b, off, rfl, World.block_lt_of_cell? w ⟨b, off + k * 3 + 0, none⟩ g0, ?_, ?_, ?_⟩
      · rw [ek]; exact g0
      · rw [ek]; exact g1
      · rw [ek]; exact g2
    · obtain ⟨i, hi, rfl⟩ := List.mem_map.1 hy
      exact (hE i (by simpa using hi)).1
/-- a message -/
theorem msg_open {b0 : Nat} {v : Value} {d : DataW H} {p : List MemPlace} (hsp : ∀ b, spare b = true) (hv : Value.okWide Try.prog w .any b0 27 v) (h : DataW.Trod enc Try.prog w 0 spare held 27 v d p) :
    ∃ (m : Mg) (v7 : Value), v = .agg (mgCells m v7) ∧ m.wide ∧ ArgEnts w v7 m.es := by
  obtain ⟨cs, rfl, hsz⟩ := okWide_struct Try.underlying27 hv
  obtain ⟨fuel, hf⟩ := h
  obtain ⟨xs, n, _, hx, _, hlen, hfield⟩ := DataW.trod_struct Try.underlying27 hf
  rw [cells27] at hsz
  obtain ⟨l⟩ := cs
  match l, hsz with
  | [c0, c1, c2, c3, c4, c5, c6, c7, c8, c9, c10, c11, c12, c13], _ =>
    match xs, hlen with
    | [x0, x1, x2, x3, x4, x5, x6, x7, x8, x9, x10, x11], _ =>
      have g0 := hfield 0 _ rfl
      have g1 := hfield 1 _ rfl
      have g2 := hfield 2 _ rfl
      have g3 := hfield 3 _ rfl
      have g4 := hfield 4 _ rfl
      have g5 := hfield 5 _ rfl
      have g6 := hfield 6 _ rfl
      have g7 := hfield 7 _ rfl
      have g8 := hfield 8 _ rfl
      have g9 := hfield 9 _ rfl
      have g10 := hfield 10 _ rfl
      have g11 := hfield 11 _ rfl
      obtain ⟨k, rfl⟩ := int_cell (v := c0) (by simpa [Value.cells, cells3] using g0)
      obtain ⟨f, rfl⟩ := int_cell (v := c1) (by simpa [Value.cells, cells3] using g1)
      obtain ⟨t, rfl⟩ := int_cell (v := c2) (by simpa [Value.cells, cells3] using g2)
      obtain ⟨term, rfl, w3⟩ := num_cell (v := c3) (by simpa [Value.cells, cells22] using g3)
      obtain ⟨ix, rfl, w4⟩ := num_cell (v := c4) (by simpa [Value.cells, cells22] using g4)
      obtain ⟨lt, rfl, w5⟩ := num_cell (v := c5) (by simpa [Value.cells, cells22] using g5)
      obtain ⟨cm, rfl, w6⟩ := num_cell (v := c6) (by simpa [Value.cells, cells22] using g6)
      obtain ⟨es, h7, w7⟩ := ents_cell (v := c7) hsp (by simpa [Value.cells, cells23] using g7)
      obtain ⟨rj, rfl⟩ := bool_cell (v := c8) (by simpa [Value.cells, cells4] using g8)
      obtain ⟨hi, rfl, w9⟩ := num_cell (v := c9) (by simpa [Value.cells, cells22] using g9)
      obtain ⟨cx, rfl, w10⟩ := num_cell (v := c10) (by simpa [Value.cells, cells22] using g10)
      obtain ⟨y0, y1, y2, n2, _, _, k0, k1, k2⟩ := Go.Deep.trod_struct3 Try.underlying25 (cs := [c11, c12, c13]) (by simpa [Value.cells, cells25] using g11)
      obtain ⟨si, rfl, w11⟩ := num_cell (v := c11) (by simpa [cells22] using k0)
      obtain ⟨st, rfl, w12⟩ := num_cell (v := c12) (by simpa [cells22] using k1)
      obtain ⟨sd, rfl⟩ := text_cell (v := c13) (by simpa [cells9] using k2)
      exact ⟨⟨k, f, t, term, ix, lt, cm, es, rj, hi, cx, si, st, sd⟩, c7, rfl, ⟨w3, w4, w5, w6, w9, w10, w11, w12, w7⟩, h7⟩
end
end Go.Proofs.Ytdemkcnhcgiheaa
