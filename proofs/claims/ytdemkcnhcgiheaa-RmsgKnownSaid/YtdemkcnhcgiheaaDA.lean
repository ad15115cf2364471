/- The walk of Decode: its ends; where the seal is wrong. Conditions: the bytes are short. -/
import Derived.Test.YtdemkcnhcgiheaaY
import Derived.Deep.RegionHeld3
namespace Go.Proofs.Ytdemkcnhcgiheaa
open Go.RowKit
theorem results_row_cell {P : Program} {fn : Func} {p u : Tmp} {ty t2 : TypeId} (h : fn.results = #[.cell p ty, .cell u t2]) (tmps : Array Value) (w : World) (g k : Nat) (t : TypeId) (cs : Array Value) (fr : Nat × Nat) (d : TypeDesc) (y : Value)
    (hp : tmps.getD p undef = .pointer (some ⟨g, 0, none⟩)) (hg : w.heap[g]? = some (.cells cs t fr))
    (hu : P.underlying ty = some d) (hd : (match d with | .struct _ | .array _ _ => true | _ => false) = true) (hi : (P.info? ty).map (·.size) = some cs.size)
    (hq : tmps.getD u undef = .pointer (some ⟨k, 0, none⟩)) (hk : (loadVar t2 ⟨k, 0, none⟩).run P w = .ok y w) :
    (results fn tmps).run P w = .ok (.tuple #[.agg cs, y]) w := by
  have hp' : tmps[p]?.getD undef = .pointer (some ⟨g, 0, none⟩) := by simpa using hp
  have hq' : tmps[u]?.getD undef = .pointer (some ⟨k, 0, none⟩) := by simpa using hq
  simp [results, h, hp', hq', asAddr, Sem.run_bind, Result.andThen, run_loadVar_row w g t ty cs fr d hg hu hd hi, hk]
theorem load_errno (w : World) (k : Nat) (e : Int) (h : w.cell? ⟨k, 0, none⟩ = some (.int .i64 e)) : (loadVar 29 ⟨k, 0, none⟩).run Try.prog w = .ok (.int .i64 e) w := by
  simp [go_sem, h]
theorem reads19 (tmps : Array Value) (N : Nat) (W : World) (m : Mg) (v : Value) (e : Int) (h2 : tmps.getD 2 undef = .pointer (some ⟨N, 0, none⟩)) (h3 : tmps.getD 3 undef = .pointer (some ⟨N + 1, 0, none⟩))
    (hN : W.heap[N]? = some (.cells (mgCells m v) 27 (0, 0))) (hE : W.heap[N + 1]? = some (.cells #[.int .i64 e] 29 (0, 0))) :
    (results Try.f19 tmps).run Try.prog W = .ok (.tuple #[.agg (mgCells m v), .int .i64 e]) W :=
  results_row_cell (p := 2) (u := 3) (ty := 27) (t2 := 29) rfl tmps W N (N + 1) 27 _ (0, 0) _ _ h2 hN Try.underlying27 rfl (by kernel_rfl) h3 (load_errno W (N + 1) e (blk_cell hE 0))
/-- what Decode defers -/
abbrev door (N : Nat) : List Deferred := [{ target := .fn (.func 44) #[.pointer (some ⟨N, 0, none⟩), .pointer (some ⟨N + 1, 0, none⟩)], args := #[] }]
/-- where bytes are given up the message is zero, the error what the panic bears -/
theorem gives_up {R : Ending → World → Prop} (tmps : Array Value) (N : Nat) (W : World) (m : Mg) (v x : Value) (e : Int) (h2 : tmps.getD 2 undef = .pointer (some ⟨N, 0, none⟩)) (h3 : tmps.getD 3 undef = .pointer (some ⟨N + 1, 0, none⟩))
    (hN : W.heap[N]? = some (.cells (mgCells m v) 27 (0, 0))) (hE : W.heap[N + 1]? = some (.cells #[x] 29 (0, 0)))
    (hR : ∀ W', (∀ (B : Nat) (W0 : World), B ≤ N → Below B W0 W → Below B W0 W') → R (.returned (.tuple #[.agg (mgCells zeroM (.slice none 0 0)), .int .i64 e])) W') :
    bodyPostD Try.prog Try.f19 R (Exit.panic [wrongV e]) { tmps := tmps, defers := door N } W := by
  refine leaves_cons (f := 44) (args := #[.pointer (some ⟨N, 0, none⟩), .pointer (some ⟨N + 1, 0, none⟩)]) (by simp) (by simp [go_sem]) ?_
  refine (saves_no N (N + 1) x e [] W m v hN hE (by omega)).mono ?_
  rintro e' u' w3 ⟨rfl, rfl, k1, k2, k3⟩
  exact ⟨_, reads19 tmps N w3 zeroM _ e h2 h3 k1 k2, hR w3 fun B W0 hB hb => k3 B W0 hB (by omega) hb⟩
/-- where it returns nothing is recovered -/
theorem gives_back {R : Ending → World → Prop} (tmps : Array Value) (N : Nat) (W : World) (m : Mg) (v : Value) (e : Int) (h2 : tmps.getD 2 undef = .pointer (some ⟨N, 0, none⟩)) (h3 : tmps.getD 3 undef = .pointer (some ⟨N + 1, 0, none⟩))
    (hN : W.heap[N]? = some (.cells (mgCells m v) 27 (0, 0))) (hE : W.heap[N + 1]? = some (.cells #[.int .i64 e] 29 (0, 0)))
    (hR : R (.returned (.tuple #[.agg (mgCells m v), .int .i64 e])) W) :
    bodyPostD Try.prog Try.f19 R Exit.ret { tmps := tmps, defers := door N } W := by
  refine leaves_cons (f := 44) (args := #[.pointer (some ⟨N, 0, none⟩), .pointer (some ⟨N + 1, 0, none⟩)]) (by simp) (by simp [go_sem]) ?_
  refine (saves_yes ⟨N, 0, none⟩ ⟨N + 1, 0, none⟩ W).mono ?_
  rintro e' u' w3 ⟨rfl, rfl, rfl⟩
  exact ⟨_, reads19 tmps N w3 m v e h2 h3 hN hE, hR⟩
set_option maxRecDepth 100000 in
set_option maxHeartbeats 1600000 in
theorem decode_none (s : Bs) (w : World) (hl : s.length ≤ 900000) (ho : open_ s = none) :
    Calls Try.prog 19 #[.string (bs s)] w fun e w' => e = .returned (.tuple #[.agg (mgCells zeroM (.slice none 0 0)), .int .i64 8]) ∧ Below w.heap.size w w' := by
  have hmf : ∀ (fn : Fn) (first cap : Array Value) (w : World), (Instr.makeFunc fn first cap).run Try.prog w = .ok (.func fn first cap) w := fun _ _ _ _ => rfl
  go_enter_defers Try.func19, Try.ntmps19
  go_wp2_with fail
  refine (open_any s _ hl).mono ?_
  rintro e w1 ⟨rfl, hb1⟩
  rw [show openV s = .tuple #[.string (bs []), .bool false] by rw [openV, ho]; rfl]
  have hN : w1.heap[w.heap.size]? = some (.cells (mgCells zeroM (.slice none 0 0)) 27 (0, 0)) := by
    rw [zeroM_cells]; exact blk_below hb1 (by simp; omega) (blk_alloc (blk_new w _) _)
  have hE : w1.heap[w.heap.size + 1]? = some (.cells #[.int .i64 0] 29 (0, 0)) := by
    have := blk_new (w.alloc (.cells #[.int .i64 0, .int .i64 0, .int .i64 0, .int .u64 0, .int .u64 0, .int .u64 0, .int .u64 0, .slice none 0 0, .bool false, .int .u64 0, .int .u64 0, .int .u64 0, .int .u64 0, .string ⟨#[]⟩] 27)) (.cells #[.int .i64 0] 29 (0, 0))
    rw [World.size_alloc] at this
    exact blk_below hb1 (by simp) this
  have hB : Below w.heap.size w w1 := (((Below.refl _ w).alloc (Nat.le_refl _) _).alloc (by simp) _).trans (hb1.mono (by simp; omega))
  have HN := Lib.hid hN
  have HE := Lib.hid hE
  have HB := Lib.hid hB
  clear hN hE hB hb1
  go_wp2_with fail
  refine (must_no 8 w1).mono ?_
  rintro e w2 ⟨rfl, rfl⟩
  go_wp2_with fail
  exact gives_up _ w.heap.size w2 zeroM _ _ 8 rfl rfl HN.out HE.out fun W' h => ⟨rfl, h _ _ (Nat.le_refl _) HB.out⟩
end Go.Proofs.Ytdemkcnhcgiheaa
