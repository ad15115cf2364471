/- The walk of the document's Decode. Conditions: the bytes are short, and so are the data of a message that may be. -/
import Derived.Test.YtdemkcnhcgiheaaRA
import Derived.Deep.RegionLaw
namespace Go.Proofs.Ytdemkcnhcgiheaa
open Go.RowKit
theorem reads20 (tmps : Array Value) (N : Nat) (W : World) (m : Mg) (v : Value) (e : Int) (h2 : tmps.getD 2 undef = .pointer (some ⟨N, 0, none⟩)) (h3 : tmps.getD 3 undef = .int .i64 e)
    (hN : W.heap[N]? = some (.cells (mgCells m v) 27 (0, 0))) :
    (results Try.f20 tmps).run Try.prog W = .ok (.tuple #[.agg (mgCells m v), .int .i64 e]) W :=
  results_row_tmp (p := 2) (u := 3) (ty := 27) rfl tmps W N 27 _ (0, 0) _ _ h2 hN Try.underlying27 rfl (by kernel_rfl) h3
/-- the message while it is read -/
def rm (k f t : Int) (term ix lt cm : Nat) (es : List Ent) (rj : Bool) (hi cx si st : Nat) (sd : Bs) : Mg := ⟨k, f, t, term, ix, lt, cm, es, rj, hi, cx, si, st, sd⟩
theorem Half.over {n k : Nat} {r0 r : Rd} {acc : List Ent} (h : Half n k r0 acc r) (hr : r.isSome = false) : rents n r0 = (acc, r) := by
  obtain ⟨h1, h2, h3⟩ := h
  cases r with
  | none => rw [h3, rents_none]; simp
  | some l => simp at hr
theorem Half.more {n k : Nat} {r0 r : Rd} {acc : List Ent} (h : Half n k r0 acc r) (hk : k < n) (hr : r.isSome = true) : Half n (k + 1) r0 (acc ++ [(rent r).1]) (rent r).2 := by
  obtain ⟨h1, h2, h3⟩ := h
  cases r with
  | none => simp at hr
  | some l =>
    refine ⟨hk, by simp [h2], ?_⟩
    rw [show n - k = (n - (k + 1)) + 1 by omega] at h3
    rw [h3]
    simp [rents]
set_option maxRecDepth 100000 in
set_option maxHeartbeats 1600000 in
theorem refDecode_none (s : Bs) (w : World) (hl : s.length ≤ 900000) (ho : open_ s = none) :
    Calls Try.prog 20 #[.string (bs s)] w fun e w' => e = .returned (.tuple #[.agg (mgCells zeroM (.slice none 0 0)), .int .i64 8]) ∧ Below w.heap.size w w' := by
  go_enter Try.func20, Try.ntmps20
  go_wp2_with fail
  refine (refOpen_any s _ hl).mono ?_
  rintro e w1 ⟨rfl, hb1⟩
  rw [show openV s = .tuple #[.string (bs []), .bool false] by rw [openV, ho]; rfl]
  have hN : w1.heap[w.heap.size]? = some (.cells (mgCells zeroM (.slice none 0 0)) 27 (0, 0)) := by
    rw [zeroM_cells]; exact blk_below hb1 (by simp) (blk_new w _)
  have hB : Below w.heap.size w w1 := ((Below.refl _ w).alloc (Nat.le_refl _) _).trans (hb1.mono (by simp))
  have HN := Lib.hid hN
  have HB := Lib.hid hB
  obtain ⟨c0, c1, c2, c3, c4, c5, c6, c7, c8, c9, c10, c11, c12, c13⟩ := mg_cells hN
  have fz := mg_frozen hN
  have f0 := fz 0
  have f1 := fz 1
  have f2 := fz 2
  have f3 := fz 3
  have f4 := fz 4
  have f5 := fz 5
  have f6 := fz 6
  have f7 := fz 7
  have f8 := fz 8
  have f9 := fz 9
  have f10 := fz 10
  have f11 := fz 11
  have f12 := fz 12
  have f13 := fz 13
  clear fz hN hB hb1
  go_wp2_with fail
  clear f0 f1 f2 f3 f4 f5 f6 f7 f8 f9 f10 f11 f12 f13 c0 c1 c2 c3 c4 c5 c6 c7 c8 c9 c10 c11 c12 c13
  refine bodyPost_ret (reads20 _ w.heap.size _ zeroM (.slice none 0 0) 8 rfl rfl ?_) rfl ⟨rfl, ?_⟩
  · rw [zeroM_cells]
    exact blk_set14 HN.out _ _ _ _ _ _ _ _ _ _ _ _ _ _
  · exact But.below (b := w.heap.size) ((((((((((((((but_of_below HB.out w.heap.size).set 0 _).set 1 _).set 2 _).set 3 _).set 4 _).set 5 _).set 6 _).set 7 _).set 8 _).set 9 _).set 10 _).set 11 _).set 12 _ |>.set 13 _) (Nat.le_refl _)
set_option maxRecDepth 100000 in
set_option maxHeartbeats 8000000 in
theorem refDecode_some (s t : Bs) (w : World) (hl : s.length ≤ 900000) (ho : open_ s = some t) (ht : t.length ≤ 900000) (hs : checkB (parse t) = true → (parse t).small) (R : Ending → World → Prop)
    (hno : good t = false → ∀ W', Below w.heap.size w W' → R (.returned (.tuple #[.agg (mgCells zeroM (.slice none 0 0)), .int .i64 4])) W')
    (hyes : good t = true → ∀ v W', Below w.heap.size w W' → EntsAt W' v (parse t).es → R (.returned (.tuple #[.agg (mgCells (parse t) v), .int .i64 0])) W') :
    Calls Try.prog 20 #[.string (bs s)] w R := by
  have HNO := Lib.hid hno
  have HYES := Lib.hid hyes
  have HS := Lib.hid hs
  clear hno hyes hs
  go_enter Try.func20, Try.ntmps20
  go_wp2_with fail
  refine (refOpen_any s _ hl).mono ?_
  rintro e w1 ⟨rfl, hb1⟩
  rw [show openV s = .tuple #[.string (bs t), .bool true] by rw [openV, ho]; rfl]
  have hN : w1.heap[w.heap.size]? = some (.cells (mgCells zeroM (.slice none 0 0)) 27 (0, 0)) := by
    rw [zeroM_cells]; exact blk_below hb1 (by simp) (blk_new w _)
  have hB : Below w.heap.size w w1 := ((Below.refl _ w).alloc (Nat.le_refl _) _).trans (hb1.mono (by simp))
  have HN := Lib.hid hN
  have HB := Lib.hid hB
  clear hN hB hb1
  go_wp2_with fail
  have hNb := blk_lt HN.out
  obtain ⟨b, hb⟩ : ∃ b, b = w1.heap.size := ⟨_, rfl⟩
  have hr2 : IsRr (w1.alloc (.cells #[.string (bs t), .bool false] 65)) b (some t) := by rw [hb]; exact blk_new w1 _
  have N2 := Lib.hid (blk_alloc HN.out (.cells #[.string (bs t), .bool false] 65))
  have B2 := Lib.hid (HB.out.alloc HB.out.size (.cells #[.string (bs t), .bool false] 65))
  have hS2 : (w1.alloc (.cells #[.string (bs t), .bool false] 65)).heap.size = b + 1 := by rw [World.size_alloc, hb]
  rw [← hb] at hNb ⊢
  clear hb HN HB
  generalize hW2 : World.alloc w1 _ = W2 at hr2 N2 B2 hS2 ⊢
  clear hW2
  have R2 := Lib.hid hr2
  have S2 := Lib.hid hS2
  clear hr2 hS2
  refine (refSmall_at 0 t b W2 R2.out ht).mono ?_
  rintro e W3 ⟨rfl, hr3, hb3⟩
  have hs3 := hb3.size
  rw [S2.out] at hs3
  have N3 := Lib.hid (blk_but hb3 (blk_lt N2.out) (by omega) N2.out)
  have B3 := Lib.hid (B2.out.trans ((hb3.mono (B' := w.heap.size) (by rw [S2.out]; omega)).below (by omega)))
  have R3 := Lib.hid hr3
  clear hb3 hr3 N2 B2 R2
  obtain ⟨x0, hx0⟩ : ∃ x, x = min (nth 0 (some t)) 99 := ⟨_, rfl⟩
  rw [← hx0]
  have X0 := Lib.hid hx0
  clear hx0 S2 W2
  go_wp2_with fail
  obtain ⟨N, hN⟩ : ∃ N, N = w.heap.size := ⟨_, rfl⟩
  rw [← hN] at N3 hNb ⊢
  have HNE := Lib.hid hN
  clear hN
  have E1 : RS w N b W3.heap.size (W3.heap.size + 1) (rm x0 0 0 0 0 0 0 [] false 0 0 0 0 []) (.slice none 0 0) (after 1 (some t)) (W3.alloc (.cells #[.int .i64 x0, .int .i64 0, .int .i64 0, .int .u64 0, .int .u64 0, .int .u64 0, .int .u64 0, .slice none 0 0, .bool false, .int .u64 0, .int .u64 0, .int .u64 0, .int .u64 0, .string ⟨#[]⟩] 27)) := by
    refine ⟨blk_alloc N3.out _, blk_new W3 _, blk_alloc R3.out _, World.ownsRow_nil _ _ _ _, B3.out.alloc B3.out.size _, HNE.out.symm, hNb, by omega, by omega, by omega, by omega, ?_⟩
    rw [World.size_alloc]
    exact Nat.le_refl _
  obtain ⟨G, hG⟩ : ∃ G, G = W3.heap.size := ⟨_, rfl⟩
  rw [← hG] at E1 ⊢
  clear hG N3 B3 R3 hs3 hNb
  obtain ⟨B, hB⟩ : ∃ B, B = G + 1 := ⟨_, rfl⟩
  rw [← hB] at E1
  clear hB
  generalize hW : World.alloc W3 _ = V1 at E1 ⊢
  clear hW W3 w1
  have E1 := Lib.hid E1
  refine (refSmall_at 1 t b V1 E1.out.rd ht).mono ?_
  rintro e U1 ⟨rfl, hr, hb⟩
  have F1 := Lib.hid (E1.out.step hr hb)
  clear hr hb E1
  obtain ⟨x1, hx1⟩ : ∃ x, x = min (nth 1 (some t)) 99 := ⟨_, rfl⟩
  rw [← hx1]
  have X1 := Lib.hid hx1
  clear hx1
  have c : U1.cell? ⟨G, 1, none⟩ = some (.int .i64 0) := blk_cell F1.out.msg 1
  have f := mg_frozen F1.out.msg 1
  go_wp2_with fail
  have E2 := F1.out.put (M' := (rm x0 x1 0 0 0 0 0 [] false 0 0 0 0 [])) 1 (.int .i64 x1) rfl rfl
  clear c f F1
  generalize hW : World.setCell _ ⟨G, 1, none⟩ _ = V2 at E2 ⊢
  clear hW U1
  have E2 := Lib.hid E2
  refine (refSmall_at 2 t b V2 E2.out.rd ht).mono ?_
  rintro e U2 ⟨rfl, hr, hb⟩
  have F2 := Lib.hid (E2.out.step hr hb)
  clear hr hb E2
  obtain ⟨x2, hx2⟩ : ∃ x, x = min (nth 2 (some t)) 99 := ⟨_, rfl⟩
  rw [← hx2]
  have X2 := Lib.hid hx2
  clear hx2
  have c : U2.cell? ⟨G, 2, none⟩ = some (.int .i64 0) := blk_cell F2.out.msg 2
  have f := mg_frozen F2.out.msg 2
  go_wp2_with fail
  have E3 := F2.out.put (M' := (rm x0 x1 x2 0 0 0 0 [] false 0 0 0 0 [])) 2 (.int .i64 x2) rfl rfl
  clear c f F2
  generalize hW : World.setCell _ ⟨G, 2, none⟩ _ = V3 at E3 ⊢
  clear hW U2
  have E3 := Lib.hid E3
  refine (refNum_at 3 (some t) b V3 E3.out.rd ht).mono ?_
  rintro e U3 ⟨rfl, hr, hb⟩
  have F3 := Lib.hid (E3.out.step hr hb)
  clear hr hb E3
  obtain ⟨x3, hx3⟩ : ∃ x, x = nth 3 (some t) := ⟨_, rfl⟩
  rw [← hx3]
  have X3 := Lib.hid hx3
  clear hx3
  have c : U3.cell? ⟨G, 3, none⟩ = some (.int .u64 0) := blk_cell F3.out.msg 3
  have f := mg_frozen F3.out.msg 3
  go_wp2_with fail
  have E4 := F3.out.put (M' := (rm x0 x1 x2 x3 0 0 0 [] false 0 0 0 0 [])) 3 (.int .u64 x3) rfl rfl
  clear c f F3
  generalize hW : World.setCell _ ⟨G, 3, none⟩ _ = V4 at E4 ⊢
  clear hW U3
  have E4 := Lib.hid E4
  refine (refNum_at 4 (some t) b V4 E4.out.rd ht).mono ?_
  rintro e U4 ⟨rfl, hr, hb⟩
  have F4 := Lib.hid (E4.out.step hr hb)
  clear hr hb E4
  obtain ⟨x4, hx4⟩ : ∃ x, x = nth 4 (some t) := ⟨_, rfl⟩
  rw [← hx4]
  have X4 := Lib.hid hx4
  clear hx4
  have c : U4.cell? ⟨G, 4, none⟩ = some (.int .u64 0) := blk_cell F4.out.msg 4
  have f := mg_frozen F4.out.msg 4
  go_wp2_with fail
  have E5 := F4.out.put (M' := (rm x0 x1 x2 x3 x4 0 0 [] false 0 0 0 0 [])) 4 (.int .u64 x4) rfl rfl
  clear c f F4
  generalize hW : World.setCell _ ⟨G, 4, none⟩ _ = V5 at E5 ⊢
  clear hW U4
  have E5 := Lib.hid E5
  refine (refNum_at 5 (some t) b V5 E5.out.rd ht).mono ?_
  rintro e U5 ⟨rfl, hr, hb⟩
  have F5 := Lib.hid (E5.out.step hr hb)
  clear hr hb E5
  obtain ⟨x5, hx5⟩ : ∃ x, x = nth 5 (some t) := ⟨_, rfl⟩
  rw [← hx5]
  have X5 := Lib.hid hx5
  clear hx5
  have c : U5.cell? ⟨G, 5, none⟩ = some (.int .u64 0) := blk_cell F5.out.msg 5
  have f := mg_frozen F5.out.msg 5
  go_wp2_with fail
  have E6 := F5.out.put (M' := (rm x0 x1 x2 x3 x4 x5 0 [] false 0 0 0 0 [])) 5 (.int .u64 x5) rfl rfl
  clear c f F5
  generalize hW : World.setCell _ ⟨G, 5, none⟩ _ = V6 at E6 ⊢
  clear hW U5
  have E6 := Lib.hid E6
  refine (refNum_at 6 (some t) b V6 E6.out.rd ht).mono ?_
  rintro e U6 ⟨rfl, hr, hb⟩
  have F6 := Lib.hid (E6.out.step hr hb)
  clear hr hb E6
  obtain ⟨x6, hx6⟩ : ∃ x, x = nth 6 (some t) := ⟨_, rfl⟩
  rw [← hx6]
  have X6 := Lib.hid hx6
  clear hx6
  have c : U6.cell? ⟨G, 6, none⟩ = some (.int .u64 0) := blk_cell F6.out.msg 6
  have f := mg_frozen F6.out.msg 6
  go_wp2_with fail
  have E7 := F6.out.put (M' := (rm x0 x1 x2 x3 x4 x5 x6 [] false 0 0 0 0 [])) 6 (.int .u64 x6) rfl rfl
  clear c f F6
  generalize hW : World.setCell _ ⟨G, 6, none⟩ _ = V7 at E7 ⊢
  clear hW U6
  have E7 := Lib.hid E7
  refine (refSmall_at 7 t b V7 E7.out.rd ht).mono ?_
  rintro e V8 ⟨rfl, hr, hb⟩
  have E8 := Lib.hid (E7.out.step hr hb)
  clear hr hb
  clear E7
  clear E1 E2 E3 E4 E5 E6 E7
  clear V1 V2 V3 V4 V5 V6 V7
  obtain ⟨n, hn⟩ : ∃ n, n = min (nth 7 (some t)) 99 := ⟨_, rfl⟩
  rw [← hn]
  have hn99 : n ≤ 99 := by omega
  have HNN := Lib.hid hn
  clear hn
  go_wp2_with fail
  go_loopw [9] (fun i W => ∃ (k : Nat) (acc : List Ent) (v : Value) (r : Rd), k ≤ n ∧ i = .int .i64 k ∧ (r.getD []).length ≤ 900000 ∧ Hid (Half n k (after 8 (some t)) acc r) ∧ Hid (RS w N b G B (rm x0 x1 x2 x3 x4 x5 x6 acc false 0 0 0 0 []) v r W)) (fun i _ => n - (intOf i).toNat)
  case atStart => exact ⟨0, [], _, _, Nat.zero_le _, rfl, Nat.le_trans (after_length 8 (some t)) ht, Half.zero _ _, E8.out⟩
  case round =>
    obtain ⟨k, acc, v, r, hk, rfl, hrl, HH, HD⟩ := hrel
    by_cases hlt : k < n
    · go_wp2_with fail
      refine (refOk_any r b wr HD.out.rd).mono ?_
      rintro e w1 ⟨rfl, rfl⟩
      cases hq : r.isSome with
      | false =>
        have hall := HH.out.over hq
        clear hq
        go_wp2_with fail
        clear hlt E8 V8
        have HALL := Lib.hid hall
        clear hall HH
        refine (refNum_at 0 r b wr HD.out.rd hrl).mono ?_
        rintro e U ⟨rfl, hr, hb⟩
        have F := Lib.hid (HD.out.step hr hb)
        clear hr hb
        clear HD
        have c : U.cell? ⟨G, 8, none⟩ = some (.bool false) := blk_cell F.out.msg 8
        have f := mg_frozen F.out.msg 8
        go_wp2_with fail
        have Z8 := F.out.put (M' := (rm x0 x1 x2 x3 x4 x5 x6 acc (nth 0 r == 1) 0 0 0 0 [])) 8 (.bool ((nth 0 r : Int) == 1)) (by rw [int_one]; rfl) rfl
        clear c f F
        generalize hW : World.setCell _ ⟨G, 8, none⟩ _ = Y8 at Z8 ⊢
        clear hW U
        have Z8b := Lib.hid Z8
        clear Z8
        refine (refNum_at 1 r b Y8 Z8b.out.rd hrl).mono ?_
        rintro e U ⟨rfl, hr, hb⟩
        have F := Lib.hid (Z8b.out.step hr hb)
        clear hr hb
        clear Z8b
        clear Y8
        have c : U.cell? ⟨G, 9, none⟩ = some (.int .u64 0) := blk_cell F.out.msg 9
        have f := mg_frozen F.out.msg 9
        go_wp2_with fail
        have Z9 := F.out.put (M' := (rm x0 x1 x2 x3 x4 x5 x6 acc (nth 0 r == 1) (nth 1 r) 0 0 0 [])) 9 (.int .u64 (nth 1 r : Nat)) (rfl) rfl
        clear c f F
        generalize hW : World.setCell _ ⟨G, 9, none⟩ _ = Y9 at Z9 ⊢
        clear hW U
        have Z9b := Lib.hid Z9
        clear Z9
        refine (refNum_at 2 r b Y9 Z9b.out.rd hrl).mono ?_
        rintro e U ⟨rfl, hr, hb⟩
        have F := Lib.hid (Z9b.out.step hr hb)
        clear hr hb
        clear Z9b
        clear Y9
        have c : U.cell? ⟨G, 10, none⟩ = some (.int .u64 0) := blk_cell F.out.msg 10
        have f := mg_frozen F.out.msg 10
        go_wp2_with fail
        have Z10 := F.out.put (M' := (rm x0 x1 x2 x3 x4 x5 x6 acc (nth 0 r == 1) (nth 1 r) (nth 2 r) 0 0 [])) 10 (.int .u64 (nth 2 r : Nat)) (rfl) rfl
        clear c f F
        generalize hW : World.setCell _ ⟨G, 10, none⟩ _ = Y10 at Z10 ⊢
        clear hW U
        have Z10b := Lib.hid Z10
        clear Z10
        refine (refNum_at 3 r b Y10 Z10b.out.rd hrl).mono ?_
        rintro e U ⟨rfl, hr, hb⟩
        have F := Lib.hid (Z10b.out.step hr hb)
        clear hr hb
        clear Z10b
        clear Y10
        have c : U.cell? ⟨G, 11, none⟩ = some (.int .u64 0) := blk_cell F.out.msg 11
        have f := mg_frozen F.out.msg 11
        go_wp2_with fail
        have Z11 := F.out.put (M' := (rm x0 x1 x2 x3 x4 x5 x6 acc (nth 0 r == 1) (nth 1 r) (nth 2 r) (nth 3 r) 0 [])) 11 (.int .u64 (nth 3 r : Nat)) (rfl) rfl
        clear c f F
        generalize hW : World.setCell _ ⟨G, 11, none⟩ _ = Y11 at Z11 ⊢
        clear hW U
        have Z11b := Lib.hid Z11
        clear Z11
        refine (refNum_at 4 r b Y11 Z11b.out.rd hrl).mono ?_
        rintro e U ⟨rfl, hr, hb⟩
        have F := Lib.hid (Z11b.out.step hr hb)
        clear hr hb
        clear Z11b
        clear Y11
        have c : U.cell? ⟨G, 12, none⟩ = some (.int .u64 0) := blk_cell F.out.msg 12
        have f := mg_frozen F.out.msg 12
        go_wp2_with fail
        have Z12 := F.out.put (M' := (rm x0 x1 x2 x3 x4 x5 x6 acc (nth 0 r == 1) (nth 1 r) (nth 2 r) (nth 3 r) (nth 4 r) [])) 12 (.int .u64 (nth 4 r : Nat)) (rfl) rfl
        clear c f F
        generalize hW : World.setCell _ ⟨G, 12, none⟩ _ = Y12 at Z12 ⊢
        clear hW U
        have Z12b := Lib.hid Z12
        clear Z12
        refine (refText_at r b Y12 Z12b.out.rd hrl).mono ?_
        rintro e U ⟨rfl, hr, hb⟩
        have F := Lib.hid (Z12b.out.step hr hb)
        clear hr hb
        clear Z12b
        clear Y12
        have c : U.cell? ⟨G, 13, none⟩ = some (.string (bs [])) := blk_cell F.out.msg 13
        have f := mg_frozen F.out.msg 13
        go_wp2_with fail
        have Z13 := F.out.put (M' := (rm x0 x1 x2 x3 x4 x5 x6 acc (nth 0 r == 1) (nth 1 r) (nth 2 r) (nth 3 r) (nth 4 r) (tail5 r).1)) 13 (.string (bs (tail5 r).1)) (rfl) rfl
        clear c f F
        generalize hW : World.setCell _ ⟨G, 13, none⟩ _ = Y13 at Z13 ⊢
        clear hW U
        have Z13b := Lib.hid Z13
        clear Z13
        have hpar : rm x0 x1 x2 x3 x4 x5 x6 acc (nth 0 r == 1) (nth 1 r) (nth 2 r) (nth 3 r) (nth 4 r) (tail5 r).1 = parse t ∧ (tail5 r).2 = left t := by
          constructor
          · unfold parse
            rw [← HNN.out, HALL.out, ← X0.out, ← X1.out, ← X2.out, ← X3.out, ← X4.out, ← X5.out, ← X6.out]
            rfl
          · unfold left
            rw [← HNN.out, HALL.out]
        have E8 := Z13b.out
        clear Z13b HALL
        rw [hpar.1, hpar.2] at E8
        clear hpar X0 X1 X2 X3 X4 X5 X6
        have E8 := Lib.hid E8
        refine (refEnd_any (left t) b Y13 E8.out.rd).mono ?_
        rintro e w9 ⟨rfl, rfl⟩
        cases hre : rend (left t) with
        | false =>
          have hgd : good t = false := by rw [good, hre]; rfl
          have HG := Lib.hid hgd
          clear hre hgd
          obtain ⟨c0, c1, c2, c3, c4, c5, c6, c7, c8, c9, c10, c11, c12, c13⟩ := mg_cells E8.out.res
          have fz := mg_frozen E8.out.res
          have f0 := fz 0
          have f1 := fz 1
          have f2 := fz 2
          have f3 := fz 3
          have f4 := fz 4
          have f5 := fz 5
          have f6 := fz 6
          have f7 := fz 7
          have f8 := fz 8
          have f9 := fz 9
          have f10 := fz 10
          have f11 := fz 11
          have f12 := fz 12
          have f13 := fz 13
          clear fz
          go_wp2_with fail
          clear f0 f1 f2 f3 f4 f5 f6 f7 f8 f9 f10 f11 f12 f13 c0 c1 c2 c3 c4 c5 c6 c7 c8 c9 c10 c11 c12 c13
          refine bodyPost_ret (reads20 _ N _ zeroM (.slice none 0 0) 4 rfl rfl ?_) rfl (HNO.out HG.out _ ?_)
          · rw [zeroM_cells]
            exact blk_set14 E8.out.res _ _ _ _ _ _ _ _ _ _ _ _ _ _
          · exact But.below (b := N) (((((((((((((((but_of_below E8.out.below N).set 0 _).set 1 _).set 2 _).set 3 _).set 4 _).set 5 _).set 6 _).set 7 _).set 8 _).set 9 _).set 10 _).set 11 _).set 12 _).set 13 _) (Nat.le_of_eq E8.out.ord.1)
        | true =>
          have HRE := Lib.hid hre
          clear hre
          obtain ⟨m, hm⟩ : ∃ m, m = parse t := ⟨_, rfl⟩
          have hfit : m.fit := hm ▸ parse_fit t (Nat.le_trans ht (by decide))
          have E8 := E8.out
          rw [← hm] at E8
          have E8 := Lib.hid E8
          have HMT := Lib.hid hm
          have HFIT := Lib.hid hfit
          clear hm hfit
          obtain ⟨c0, c1, c2, c3, c4, c5, c6, c7, c8, c9, c10, c11, c12, c13⟩ := mg_cells E8.out.msg
          go_wp2_with fail
          refine (refCheck_any m v Y13 HFIT.out (own_ents E8.out.own)).mono ?_
          rintro e w10 ⟨rfl, hb10⟩
          have E10 := Lib.hid (E8.out.later hb10)
          clear hb10 c0 c1 c2 c3 c4 c5 c6 c7 c8 c9 c10 c11 c12 c13
          cases hck : checkB m with
          | false =>
            have hgd : good t = false := by rw [good, ← HMT.out, hck, Bool.and_false, Bool.false_and]
            have HG := Lib.hid hgd
            clear hck hgd
            obtain ⟨c0, c1, c2, c3, c4, c5, c6, c7, c8, c9, c10, c11, c12, c13⟩ := mg_cells E10.out.res
            have fz := mg_frozen E10.out.res
            have f0 := fz 0
            have f1 := fz 1
            have f2 := fz 2
            have f3 := fz 3
            have f4 := fz 4
            have f5 := fz 5
            have f6 := fz 6
            have f7 := fz 7
            have f8 := fz 8
            have f9 := fz 9
            have f10 := fz 10
            have f11 := fz 11
            have f12 := fz 12
            have f13 := fz 13
            clear fz
            go_wp2_with fail
            clear f0 f1 f2 f3 f4 f5 f6 f7 f8 f9 f10 f11 f12 f13 c0 c1 c2 c3 c4 c5 c6 c7 c8 c9 c10 c11 c12 c13
            refine bodyPost_ret (reads20 _ N _ zeroM (.slice none 0 0) 4 rfl rfl ?_) rfl (HNO.out HG.out _ ?_)
            · rw [zeroM_cells]
              exact blk_set14 E10.out.res _ _ _ _ _ _ _ _ _ _ _ _ _ _
            · exact But.below (b := N) (((((((((((((((but_of_below E10.out.below N).set 0 _).set 1 _).set 2 _).set 3 _).set 4 _).set 5 _).set 6 _).set 7 _).set 8 _).set 9 _).set 10 _).set 11 _).set 12 _).set 13 _) (Nat.le_of_eq E10.out.ord.1)
          | true =>
            have HCK := Lib.hid hck
            have hf := checkB_facts hck
            have hok := HFIT.out.ok (HMT.out ▸ HS.out (HMT.out ▸ hck)) hf.2.2.2
            have HF := Lib.hid hf
            have HOK := Lib.hid hok
            clear hck hf hok
            obtain ⟨c0, c1, c2, c3, c4, c5, c6, c7, c8, c9, c10, c11, c12, c13⟩ := mg_cells E10.out.msg
            go_wp2_with fail
            refine (refBytes_any m v w10 HOK.out HF.out.1 HF.out.2.1 HF.out.2.2.1 (own_ents E10.out.own)).mono ?_
            rintro e w11 ⟨rfl, hb11⟩
            have E11 := Lib.hid (E10.out.later hb11)
            clear hb11 c0 c1 c2 c3 c4 c5 c6 c7 c8 c9 c10 c11 c12 c13
            by_cases heq : layB m = t
            case neg =>
              have hgd : good t = false := by
                rw [good, ← HMT.out]
                rw [show (layB m == t) = false from beq_eq_false_iff_ne.2 heq, Bool.and_false]
              have HG := Lib.hid hgd
              have hne : (layB m == t) = false := beq_eq_false_iff_ne.2 heq
              have hne2 : (layB m != t) = true := by rw [bne, hne]; rfl
              clear hgd
              obtain ⟨c0, c1, c2, c3, c4, c5, c6, c7, c8, c9, c10, c11, c12, c13⟩ := mg_cells E11.out.res
              have fz := mg_frozen E11.out.res
              have f0 := fz 0
              have f1 := fz 1
              have f2 := fz 2
              have f3 := fz 3
              have f4 := fz 4
              have f5 := fz 5
              have f6 := fz 6
              have f7 := fz 7
              have f8 := fz 8
              have f9 := fz 9
              have f10 := fz 10
              have f11 := fz 11
              have f12 := fz 12
              have f13 := fz 13
              clear fz
              go_wp2_with fail
              clear f0 f1 f2 f3 f4 f5 f6 f7 f8 f9 f10 f11 f12 f13 c0 c1 c2 c3 c4 c5 c6 c7 c8 c9 c10 c11 c12 c13
              refine bodyPost_ret (reads20 _ N _ zeroM (.slice none 0 0) 4 rfl rfl ?_) rfl (HNO.out HG.out _ ?_)
              · rw [zeroM_cells]
                exact blk_set14 E11.out.res _ _ _ _ _ _ _ _ _ _ _ _ _ _
              · exact But.below (b := N) (((((((((((((((but_of_below E11.out.below N).set 0 _).set 1 _).set 2 _).set 3 _).set 4 _).set 5 _).set 6 _).set 7 _).set 8 _).set 9 _).set 10 _).set 11 _).set 12 _).set 13 _) (Nat.le_of_eq E11.out.ord.1)
            case pos =>
              have hgd : good t = true := by
                rw [good, ← HMT.out, HRE.out, HCK.out]
                simp [heq]
              have HG := Lib.hid hgd
              clear hgd
              obtain ⟨A, cap, rfl, _⟩ := (own_ents E11.out.own).form2
              obtain ⟨c0, c1, c2, c3, c4, c5, c6, c7, c8, c9, c10, c11, c12, c13⟩ := mg_cells E11.out.msg
              obtain ⟨d0, d1, d2, d3, d4, d5, d6, d7, d8, d9, d10, d11, d12, d13⟩ := mg_cells E11.out.res
              have fz := mg_frozen E11.out.res
              have f0 := fz 0
              have f1 := fz 1
              have f2 := fz 2
              have f3 := fz 3
              have f4 := fz 4
              have f5 := fz 5
              have f6 := fz 6
              have f7 := fz 7
              have f8 := fz 8
              have f9 := fz 9
              have f10 := fz 10
              have f11 := fz 11
              have f12 := fz 12
              have f13 := fz 13
              clear fz
              go_wp2_with fail
              clear f0 f1 f2 f3 f4 f5 f6 f7 f8 f9 f10 f11 f12 f13 c0 c1 c2 c3 c4 c5 c6 c7 c8 c9 c10 c11 c12 c13 d0 d1 d2 d3 d4 d5 d6 d7 d8 d9 d10 d11 d12 d13
              refine bodyPost_ret (reads20 _ N _ m (.slice A m.es.length cap) 0 rfl rfl ?_) rfl ?_
              · exact blk_set14 E11.out.res _ _ _ _ _ _ _ _ _ _ _ _ _ _
              · rw [HMT.out]
                refine HYES.out HG.out _ _ ?_ ?_
                · exact But.below (b := N) (((((((((((((((but_of_below E11.out.below N).set 0 _).set 1 _).set 2 _).set 3 _).set 4 _).set 5 _).set 6 _).set 7 _).set 8 _).set 9 _).set 10 _).set 11 _).set 12 _).set 13 _) (Nat.le_of_eq E11.out.ord.1)
                · rw [← HMT.out]
                  have hNB : N < B := by have := E11.out.ord; omega
                  exact own_ents (own_set (own_set (own_set (own_set (own_set (own_set (own_set (own_set (own_set (own_set (own_set (own_set (own_set (own_set E11.out.own _ hNB _) _ hNB _) _ hNB _) _ hNB _) _ hNB _) _ hNB _) _ hNB _) _ hNB _) _ hNB _) _ hNB _) _ hNB _) _ hNB _) _ hNB _) _ hNB _)
      | true =>
        have c7 : wr.cell? ⟨G, 7, none⟩ = some v := blk_cell HD.out.msg 7
        go_wp2_with fail
        obtain ⟨i0, hi, hz0, hz1, hz2⟩ := info_parts info34
        have hacc : acc.length ≤ 99 := by have := HH.out.2.1; omega
        have hrl2 : (r.getD []).length ≤ 1000000 := by omega
        go_region_law (first
          | (refine step_append_lies _ rfl (.tmp 54) (.tmp 57) 23 rfl B 34 i0 (.agg #[.int .u64 0, .int .u64 0, .string ⟨#[]⟩]) 3 32 Try.underlying23 hi hz0 hz1 hz2 rfl (by decide) v acc.length (entFlat acc) (by simp [Act.eval]) (E1.out.alloc _).own ⟨w1.heap.size, 0, none⟩ 1 1 (entCells (rent r).1).toList (by simp [Act.eval]) rfl (World.news_of_block (blk_new w1 _)) (cells_one _) (by decide) (by unfold maxLen; omega) (by omega) (E1.out.alloc _).ord.2.2.2.2.2.2 _ rfl ?_
             intro gg cap w3 hown hgrow hat hlt3
             have E3 := Lib.hid ((E1.out.alloc _).grown (M' := rm x0 x1 x2 x3 x4 x5 x6 (acc ++ [(rent r).1]) false 0 0 0 0 []) (rent r).1 rfl rfl hgrow hown)
             have hm3 := ((E1.out.alloc _).far hgrow G (by have := HD.out.ord; omega)).trans (E1.out.alloc _).msg
             have k73 : w3.cell? ⟨G, 7, none⟩ = some v := blk_cell hm3 7
             have f73 := mg_frozen hm3 7
             clear hown hgrow hat hm3)
          | (go_simp
             go_at_call 42
             refine (refEntry_any r b wr.drew HD.out.drew.rd hrl2).mono ?_
             rintro e w1 ⟨rfl, hr1, hb1⟩
             rw [show entCells (rent r).1 = #[.int .u64 ((rent r).1.t : Int), .int .u64 ((rent r).1.i : Int), .string (bs (rent r).1.d)] from rfl]
             have E1 := Lib.hid (HD.out.drew.step hr1 hb1)
             have k7 : w1.cell? ⟨G, 7, none⟩ = some v := blk_cell E1.out.msg 7
             have k7a : ∀ o, (w1.alloc o).cell? ⟨G, 7, none⟩ = some v := fun o => blk_cell (blk_alloc E1.out.msg o) 7
             clear hr1 hb1))
        all_goals
          clear k7 k7a k73 f73 c7
          generalize hW4 : World.setCell _ ⟨G, 7, none⟩ _ = W4 at E3 ⊢
          clear hW4 hlt3 hi hz0 hz1 hz2 i0
          go_wp2_with fail
          refine ⟨⟨k + 1, acc ++ [(rent r).1], _, (rent r).2, by omega, by go_num, Nat.le_trans (rent_length r) hrl, HH.out.more hlt hq, E3.out⟩, by simp [intOf]; omega⟩
    · obtain rfl : k = n := by omega
      have hall := HH.out.all rfl
      go_wp2_with fail
      clear hlt E8 V8
      have HALL := Lib.hid hall
      clear hall HH
      refine (refNum_at 0 r b wr HD.out.rd hrl).mono ?_
      rintro e U ⟨rfl, hr, hb⟩
      have F := Lib.hid (HD.out.step hr hb)
      clear hr hb
      clear HD
      have c : U.cell? ⟨G, 8, none⟩ = some (.bool false) := blk_cell F.out.msg 8
      have f := mg_frozen F.out.msg 8
      go_wp2_with fail
      have Z8 := F.out.put (M' := (rm x0 x1 x2 x3 x4 x5 x6 acc (nth 0 r == 1) 0 0 0 0 [])) 8 (.bool ((nth 0 r : Int) == 1)) (by rw [int_one]; rfl) rfl
      clear c f F
      generalize hW : World.setCell _ ⟨G, 8, none⟩ _ = Y8 at Z8 ⊢
      clear hW U
      have Z8b := Lib.hid Z8
      clear Z8
      refine (refNum_at 1 r b Y8 Z8b.out.rd hrl).mono ?_
      rintro e U ⟨rfl, hr, hb⟩
      have F := Lib.hid (Z8b.out.step hr hb)
      clear hr hb
      clear Z8b
      clear Y8
      have c : U.cell? ⟨G, 9, none⟩ = some (.int .u64 0) := blk_cell F.out.msg 9
      have f := mg_frozen F.out.msg 9
      go_wp2_with fail
      have Z9 := F.out.put (M' := (rm x0 x1 x2 x3 x4 x5 x6 acc (nth 0 r == 1) (nth 1 r) 0 0 0 [])) 9 (.int .u64 (nth 1 r : Nat)) (rfl) rfl
      clear c f F
      generalize hW : World.setCell _ ⟨G, 9, none⟩ _ = Y9 at Z9 ⊢
      clear hW U
      have Z9b := Lib.hid Z9
      clear Z9
      refine (refNum_at 2 r b Y9 Z9b.out.rd hrl).mono ?_
      rintro e U ⟨rfl, hr, hb⟩
      have F := Lib.hid (Z9b.out.step hr hb)
      clear hr hb
      clear Z9b
      clear Y9
      have c : U.cell? ⟨G, 10, none⟩ = some (.int .u64 0) := blk_cell F.out.msg 10
      have f := mg_frozen F.out.msg 10
      go_wp2_with fail
      have Z10 := F.out.put (M' := (rm x0 x1 x2 x3 x4 x5 x6 acc (nth 0 r == 1) (nth 1 r) (nth 2 r) 0 0 [])) 10 (.int .u64 (nth 2 r : Nat)) (rfl) rfl
      clear c f F
      generalize hW : World.setCell _ ⟨G, 10, none⟩ _ = Y10 at Z10 ⊢
      clear hW U
      have Z10b := Lib.hid Z10
      clear Z10
      refine (refNum_at 3 r b Y10 Z10b.out.rd hrl).mono ?_
      rintro e U ⟨rfl, hr, hb⟩
      have F := Lib.hid (Z10b.out.step hr hb)
      clear hr hb
      clear Z10b
      clear Y10
      have c : U.cell? ⟨G, 11, none⟩ = some (.int .u64 0) := blk_cell F.out.msg 11
      have f := mg_frozen F.out.msg 11
      go_wp2_with fail
      have Z11 := F.out.put (M' := (rm x0 x1 x2 x3 x4 x5 x6 acc (nth 0 r == 1) (nth 1 r) (nth 2 r) (nth 3 r) 0 [])) 11 (.int .u64 (nth 3 r : Nat)) (rfl) rfl
      clear c f F
      generalize hW : World.setCell _ ⟨G, 11, none⟩ _ = Y11 at Z11 ⊢
      clear hW U
      have Z11b := Lib.hid Z11
      clear Z11
      refine (refNum_at 4 r b Y11 Z11b.out.rd hrl).mono ?_
      rintro e U ⟨rfl, hr, hb⟩
      have F := Lib.hid (Z11b.out.step hr hb)
      clear hr hb
      clear Z11b
      clear Y11
      have c : U.cell? ⟨G, 12, none⟩ = some (.int .u64 0) := blk_cell F.out.msg 12
      have f := mg_frozen F.out.msg 12
      go_wp2_with fail
      have Z12 := F.out.put (M' := (rm x0 x1 x2 x3 x4 x5 x6 acc (nth 0 r == 1) (nth 1 r) (nth 2 r) (nth 3 r) (nth 4 r) [])) 12 (.int .u64 (nth 4 r : Nat)) (rfl) rfl
      clear c f F
      generalize hW : World.setCell _ ⟨G, 12, none⟩ _ = Y12 at Z12 ⊢
      clear hW U
      have Z12b := Lib.hid Z12
      clear Z12
      refine (refText_at r b Y12 Z12b.out.rd hrl).mono ?_
      rintro e U ⟨rfl, hr, hb⟩
      have F := Lib.hid (Z12b.out.step hr hb)
      clear hr hb
      clear Z12b
      clear Y12
      have c : U.cell? ⟨G, 13, none⟩ = some (.string (bs [])) := blk_cell F.out.msg 13
      have f := mg_frozen F.out.msg 13
      go_wp2_with fail
      have Z13 := F.out.put (M' := (rm x0 x1 x2 x3 x4 x5 x6 acc (nth 0 r == 1) (nth 1 r) (nth 2 r) (nth 3 r) (nth 4 r) (tail5 r).1)) 13 (.string (bs (tail5 r).1)) (rfl) rfl
      clear c f F
      generalize hW : World.setCell _ ⟨G, 13, none⟩ _ = Y13 at Z13 ⊢
      clear hW U
      have Z13b := Lib.hid Z13
      clear Z13
      have hpar : rm x0 x1 x2 x3 x4 x5 x6 acc (nth 0 r == 1) (nth 1 r) (nth 2 r) (nth 3 r) (nth 4 r) (tail5 r).1 = parse t ∧ (tail5 r).2 = left t := by
        constructor
        · unfold parse
          rw [← HNN.out, HALL.out, ← X0.out, ← X1.out, ← X2.out, ← X3.out, ← X4.out, ← X5.out, ← X6.out]
          rfl
        · unfold left
          rw [← HNN.out, HALL.out]
      have E8 := Z13b.out
      clear Z13b HALL
      rw [hpar.1, hpar.2] at E8
      clear hpar X0 X1 X2 X3 X4 X5 X6
      have E8 := Lib.hid E8
      refine (refEnd_any (left t) b Y13 E8.out.rd).mono ?_
      rintro e w9 ⟨rfl, rfl⟩
      cases hre : rend (left t) with
      | false =>
        have hgd : good t = false := by rw [good, hre]; rfl
        have HG := Lib.hid hgd
        clear hre hgd
        obtain ⟨c0, c1, c2, c3, c4, c5, c6, c7, c8, c9, c10, c11, c12, c13⟩ := mg_cells E8.out.res
        have fz := mg_frozen E8.out.res
        have f0 := fz 0
        have f1 := fz 1
        have f2 := fz 2
        have f3 := fz 3
        have f4 := fz 4
        have f5 := fz 5
        have f6 := fz 6
        have f7 := fz 7
        have f8 := fz 8
        have f9 := fz 9
        have f10 := fz 10
        have f11 := fz 11
        have f12 := fz 12
        have f13 := fz 13
        clear fz
        go_wp2_with fail
        clear f0 f1 f2 f3 f4 f5 f6 f7 f8 f9 f10 f11 f12 f13 c0 c1 c2 c3 c4 c5 c6 c7 c8 c9 c10 c11 c12 c13
        refine bodyPost_ret (reads20 _ N _ zeroM (.slice none 0 0) 4 rfl rfl ?_) rfl (HNO.out HG.out _ ?_)
        · rw [zeroM_cells]
          exact blk_set14 E8.out.res _ _ _ _ _ _ _ _ _ _ _ _ _ _
        · exact But.below (b := N) (((((((((((((((but_of_below E8.out.below N).set 0 _).set 1 _).set 2 _).set 3 _).set 4 _).set 5 _).set 6 _).set 7 _).set 8 _).set 9 _).set 10 _).set 11 _).set 12 _).set 13 _) (Nat.le_of_eq E8.out.ord.1)
      | true =>
        have HRE := Lib.hid hre
        clear hre
        obtain ⟨m, hm⟩ : ∃ m, m = parse t := ⟨_, rfl⟩
        have hfit : m.fit := hm ▸ parse_fit t (Nat.le_trans ht (by decide))
        have E8 := E8.out
        rw [← hm] at E8
        have E8 := Lib.hid E8
        have HMT := Lib.hid hm
        have HFIT := Lib.hid hfit
        clear hm hfit
        obtain ⟨c0, c1, c2, c3, c4, c5, c6, c7, c8, c9, c10, c11, c12, c13⟩ := mg_cells E8.out.msg
        go_wp2_with fail
        refine (refCheck_any m v Y13 HFIT.out (own_ents E8.out.own)).mono ?_
        rintro e w10 ⟨rfl, hb10⟩
        have E10 := Lib.hid (E8.out.later hb10)
        clear hb10 c0 c1 c2 c3 c4 c5 c6 c7 c8 c9 c10 c11 c12 c13
        cases hck : checkB m with
        | false =>
          have hgd : good t = false := by rw [good, ← HMT.out, hck, Bool.and_false, Bool.false_and]
          have HG := Lib.hid hgd
          clear hck hgd
          obtain ⟨c0, c1, c2, c3, c4, c5, c6, c7, c8, c9, c10, c11, c12, c13⟩ := mg_cells E10.out.res
          have fz := mg_frozen E10.out.res
          have f0 := fz 0
          have f1 := fz 1
          have f2 := fz 2
          have f3 := fz 3
          have f4 := fz 4
          have f5 := fz 5
          have f6 := fz 6
          have f7 := fz 7
          have f8 := fz 8
          have f9 := fz 9
          have f10 := fz 10
          have f11 := fz 11
          have f12 := fz 12
          have f13 := fz 13
          clear fz
          go_wp2_with fail
          clear f0 f1 f2 f3 f4 f5 f6 f7 f8 f9 f10 f11 f12 f13 c0 c1 c2 c3 c4 c5 c6 c7 c8 c9 c10 c11 c12 c13
          refine bodyPost_ret (reads20 _ N _ zeroM (.slice none 0 0) 4 rfl rfl ?_) rfl (HNO.out HG.out _ ?_)
          · rw [zeroM_cells]
            exact blk_set14 E10.out.res _ _ _ _ _ _ _ _ _ _ _ _ _ _
          · exact But.below (b := N) (((((((((((((((but_of_below E10.out.below N).set 0 _).set 1 _).set 2 _).set 3 _).set 4 _).set 5 _).set 6 _).set 7 _).set 8 _).set 9 _).set 10 _).set 11 _).set 12 _).set 13 _) (Nat.le_of_eq E10.out.ord.1)
        | true =>
          have HCK := Lib.hid hck
          have hf := checkB_facts hck
          have hok := HFIT.out.ok (HMT.out ▸ HS.out (HMT.out ▸ hck)) hf.2.2.2
          have HF := Lib.hid hf
          have HOK := Lib.hid hok
          clear hck hf hok
          obtain ⟨c0, c1, c2, c3, c4, c5, c6, c7, c8, c9, c10, c11, c12, c13⟩ := mg_cells E10.out.msg
          go_wp2_with fail
          refine (refBytes_any m v w10 HOK.out HF.out.1 HF.out.2.1 HF.out.2.2.1 (own_ents E10.out.own)).mono ?_
          rintro e w11 ⟨rfl, hb11⟩
          have E11 := Lib.hid (E10.out.later hb11)
          clear hb11 c0 c1 c2 c3 c4 c5 c6 c7 c8 c9 c10 c11 c12 c13
          by_cases heq : layB m = t
          case neg =>
            have hgd : good t = false := by
              rw [good, ← HMT.out]
              rw [show (layB m == t) = false from beq_eq_false_iff_ne.2 heq, Bool.and_false]
            have HG := Lib.hid hgd
            have hne : (layB m == t) = false := beq_eq_false_iff_ne.2 heq
            have hne2 : (layB m != t) = true := by rw [bne, hne]; rfl
            clear hgd
            obtain ⟨c0, c1, c2, c3, c4, c5, c6, c7, c8, c9, c10, c11, c12, c13⟩ := mg_cells E11.out.res
            have fz := mg_frozen E11.out.res
            have f0 := fz 0
            have f1 := fz 1
            have f2 := fz 2
            have f3 := fz 3
            have f4 := fz 4
            have f5 := fz 5
            have f6 := fz 6
            have f7 := fz 7
            have f8 := fz 8
            have f9 := fz 9
            have f10 := fz 10
            have f11 := fz 11
            have f12 := fz 12
            have f13 := fz 13
            clear fz
            go_wp2_with fail
            clear f0 f1 f2 f3 f4 f5 f6 f7 f8 f9 f10 f11 f12 f13 c0 c1 c2 c3 c4 c5 c6 c7 c8 c9 c10 c11 c12 c13
            refine bodyPost_ret (reads20 _ N _ zeroM (.slice none 0 0) 4 rfl rfl ?_) rfl (HNO.out HG.out _ ?_)
            · rw [zeroM_cells]
              exact blk_set14 E11.out.res _ _ _ _ _ _ _ _ _ _ _ _ _ _
            · exact But.below (b := N) (((((((((((((((but_of_below E11.out.below N).set 0 _).set 1 _).set 2 _).set 3 _).set 4 _).set 5 _).set 6 _).set 7 _).set 8 _).set 9 _).set 10 _).set 11 _).set 12 _).set 13 _) (Nat.le_of_eq E11.out.ord.1)
          case pos =>
            have hgd : good t = true := by
              rw [good, ← HMT.out, HRE.out, HCK.out]
              simp [heq]
            have HG := Lib.hid hgd
            clear hgd
            obtain ⟨A, cap, rfl, _⟩ := (own_ents E11.out.own).form2
            obtain ⟨c0, c1, c2, c3, c4, c5, c6, c7, c8, c9, c10, c11, c12, c13⟩ := mg_cells E11.out.msg
            obtain ⟨d0, d1, d2, d3, d4, d5, d6, d7, d8, d9, d10, d11, d12, d13⟩ := mg_cells E11.out.res
            have fz := mg_frozen E11.out.res
            have f0 := fz 0
            have f1 := fz 1
            have f2 := fz 2
            have f3 := fz 3
            have f4 := fz 4
            have f5 := fz 5
            have f6 := fz 6
            have f7 := fz 7
            have f8 := fz 8
            have f9 := fz 9
            have f10 := fz 10
            have f11 := fz 11
            have f12 := fz 12
            have f13 := fz 13
            clear fz
            go_wp2_with fail
            clear f0 f1 f2 f3 f4 f5 f6 f7 f8 f9 f10 f11 f12 f13 c0 c1 c2 c3 c4 c5 c6 c7 c8 c9 c10 c11 c12 c13 d0 d1 d2 d3 d4 d5 d6 d7 d8 d9 d10 d11 d12 d13
            refine bodyPost_ret (reads20 _ N _ m (.slice A m.es.length cap) 0 rfl rfl ?_) rfl ?_
            · exact blk_set14 E11.out.res _ _ _ _ _ _ _ _ _ _ _ _ _ _
            · rw [HMT.out]
              refine HYES.out HG.out _ _ ?_ ?_
              · exact But.below (b := N) (((((((((((((((but_of_below E11.out.below N).set 0 _).set 1 _).set 2 _).set 3 _).set 4 _).set 5 _).set 6 _).set 7 _).set 8 _).set 9 _).set 10 _).set 11 _).set 12 _).set 13 _) (Nat.le_of_eq E11.out.ord.1)
              · rw [← HMT.out]
                have hNB : N < B := by have := E11.out.ord; omega
                exact own_ents (own_set (own_set (own_set (own_set (own_set (own_set (own_set (own_set (own_set (own_set (own_set (own_set (own_set (own_set E11.out.own _ hNB _) _ hNB _) _ hNB _) _ hNB _) _ hNB _) _ hNB _) _ hNB _) _ hNB _) _ hNB _) _ hNB _) _ hNB _) _ hNB _) _ hNB _) _ hNB _)
end Go.Proofs.Ytdemkcnhcgiheaa
