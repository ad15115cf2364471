/- What package wire reads: a reader's two cells, and what each of its methods makes of them. Condition: what is left is short. -/
import Derived.Test.YtdemkcnhcgiheaaB
namespace Go.Proofs.Ytdemkcnhcgiheaa
open Go.RowKit
/-- a reader's two cells -/
def rdCells (r : Rd) : Array Value := #[.string (bs (r.getD [])), .bool r.isNone]
def IsRd (w : World) (b : Nat) (r : Rd) : Prop := w.heap[b]? = some (.cells (rdCells r) 84 (0, 0))
theorem rd_c0 {w : World} {b : Nat} {r : Rd} (h : IsRd w b r) : w.cell? ⟨b, 0, none⟩ = some (.string (bs (r.getD []))) := blk_cell h 0
theorem rd_c1 {w : World} {b : Nat} {r : Rd} (h : IsRd w b r) : w.cell? ⟨b, 1, none⟩ = some (.bool r.isNone) := blk_cell h 1
theorem rd_set {w : World} {b : Nat} {r : Rd} (h : IsRd w b r) (x y : Value) : ((w.setCell ⟨b, 0, none⟩ x).setCell ⟨b, 1, none⟩ y).heap[b]? = some (.cells #[x, y] 84 (0, 0)) := by
  have := blk_set (blk_set h 0 x) 1 y
  exact this
theorem rd_set0 {w : World} {b : Nat} {l : Bs} (h : IsRd w b (some l)) (l' : Bs) : IsRd (w.setCell ⟨b, 0, none⟩ (.string (bs l'))) b (some l') := by
  have := blk_set h 0 (.string (bs l'))
  exact this
theorem rd_below {w w' : World} {B b : Nat} {r : Rd} (hb : Below B w w') (hB : b < B) (h : IsRd w b r) : IsRd w' b r := blk_below hb hB h
theorem rd_but {w w' : World} {B b c : Nat} {r : Rd} (hb : But B c w w') (hB : b < B) (hc : b ≠ c) (h : IsRd w b r) : IsRd w' b r := blk_but hb hB hc h
theorem rd_alloc {w : World} {b : Nat} {r : Rd} (h : IsRd w b r) (o : Obj) : IsRd (w.alloc o) b r := blk_alloc h o
theorem rd_other {w : World} {b : Nat} {r : Rd} (h : IsRd w b r) {a : Addr} (ha : b ≠ a.block) (v : Value) : IsRd (w.setCell a v) b r := blk_other h ha v
set_option maxHeartbeats 400000 in
theorem wrong_any (r : Rd) (b g : Nat) (w : World) (hg : w.cell? ⟨g, 0, none⟩ = some (.pointer (some ⟨b, 0, none⟩))) (hb : IsRd w b r) :
    Calls Try.prog 61 #[.pointer (some ⟨g, 0, none⟩)] w fun e w' => e = .returned (.int .u64 0) ∧ IsRd w' b none ∧ But w.heap.size b w w' := by
  have c0 := rd_c0 hb
  have c1 := rd_c1 hb
  have f0 := blk_frozen hb 0
  have f1 := blk_frozen hb 1
  have HB := Lib.hid hb
  clear hb
  go_enter Try.func61, Try.ntmps61
  go_wp2
  go_ret
  exact ⟨rfl, rd_set HB.out _ _, (((but_of_below (Below.refl _ _) _).set _ _).set _ _)⟩
theorem newReader_any (l : List UInt8) (w : World) : Calls Try.prog 39 #[.string (bs l)] w fun e w' => e = .returned (.pointer (some ⟨w.heap.size, 0, none⟩)) ∧ IsRd w' w.heap.size (some l) ∧ w'.heap.size = w.heap.size + 1 ∧ Below w.heap.size w w' := by
  go_enter Try.func39, Try.ntmps39
  go_wp2
  go_ret
  exact ⟨rfl, blk_new _ _, by simp, (Below.refl _ _).alloc (Nat.le_refl _) _⟩
theorem ok_any (r : Rd) (b : Nat) (w : World) (hb : IsRd w b r) : Calls Try.prog 48 #[.pointer (some ⟨b, 0, none⟩)] w fun e w' => e = .returned (.bool r.isSome) ∧ w = w' := by
  have c1 := rd_c1 hb
  have HB := Lib.hid hb
  clear hb
  go_enter Try.func48, Try.ntmps48
  go_wp2
  go_ret
  exact ⟨by cases r <;> rfl, rfl⟩
/-- is a reader well, and nothing left? -/
def rend (r : Rd) : Bool := r == some []
theorem end_any (r : Rd) (b : Nat) (w : World) (hb : IsRd w b r) : Calls Try.prog 41 #[.pointer (some ⟨b, 0, none⟩)] w fun e w' => e = .returned (.bool (rend r)) ∧ w = w' := by
  have H : ∀ (b1 b2 : Bool), r.isSome = b1 → ((r.getD []).isEmpty) = b2 → (b1 && b2) = rend r := by
    rintro b1 b2 rfl rfl
    rcases r with _ | (_ | ⟨x, l⟩) <;> rfl
  have c0 := rd_c0 hb
  have HB := Lib.hid hb
  clear hb
  go_enter Try.func41, Try.ntmps41
  go_wp2_with fail
  refine (ok_any r b w HB.out).mono ?_
  rintro e w' ⟨rfl, rfl⟩
  cases h1 : r.isSome
  · go_wp2
    go_ret
    exact ⟨by rw [← H _ _ h1 rfl]; rfl, rfl⟩
  · go_wp2
    go_ret
    exact ⟨by rw [← H _ _ h1 rfl]; rfl, rfl⟩
set_option maxRecDepth 100000 in
set_option maxHeartbeats 400000 in
theorem num_empty (r : Rd) (b : Nat) (w : World) (hb : IsRd w b r) (hr : r = none ∨ r = some []) :
    Calls Try.prog 47 #[.pointer (some ⟨b, 0, none⟩)] w fun e w' => e = .returned (.int .u64 (rnum r).1) ∧ IsRd w' b (rnum r).2 ∧ But w.heap.size b w w' := by
  have e1 : (rnum r) = (0, none) := by rcases hr with rfl | rfl <;> rfl
  have c0 : w.cell? ⟨b, 0, none⟩ = some (.string (bs [])) := by rcases hr with rfl | rfl <;> exact rd_c0 hb
  have hlt := blk_lt hb
  have HB := Lib.hid hb
  rw [e1]
  clear hb e1 hr
  go_enter Try.func47, Try.ntmps47
  go_wp2_with fail
  refine (wrong_any r b _ _ (blk_cell (blk_new _ _) 0) (rd_alloc HB.out _)).mono ?_
  rintro e w1 ⟨rfl, hr, hb⟩
  have H1 := Lib.hid hr
  have H2 := Lib.hid (((but_of_below (Below.refl _ w) b).alloc (Nat.le_refl _) (.cells #[.pointer (some ⟨b, 0, none⟩)] 60)).trans (hb.mono (by simp)))
  clear hr hb
  go_wp2
  go_ret
  exact ⟨rfl, H1.out, H2.out⟩
set_option maxRecDepth 100000 in
set_option maxHeartbeats 400000 in
theorem num_short (f : UInt8) (l : Bs) (b : Nat) (w : World) (hb : IsRd w b (some (f :: l))) (hl : l.length ≤ 1000000) (hf : f.toNat < 248) :
    Calls Try.prog 47 #[.pointer (some ⟨b, 0, none⟩)] w fun e w' => e = .returned (.int .u64 f.toNat) ∧ IsRd w' b (some l) ∧ But w.heap.size b w w' := by
  have c0 : w.cell? ⟨b, 0, none⟩ = some (.string (bs (f :: l))) := rd_c0 hb
  have f0 := blk_frozen hb 0
  have hlt := blk_lt hb
  have HB := Lib.hid hb
  clear hb
  have hf2 : (f.toNat : Int) < 248 := by omega
  go_enter Try.func47, Try.ntmps47
  go_wp2_with fail
  go_quiet (fail)
  go_wp2_with fail
  go_ret
  exact ⟨rfl, blk_set (rd_alloc HB.out _) 0 _, (((but_of_below (Below.refl _ w) b).alloc (Nat.le_refl _) _).drewN nq).set _ _⟩
theorem or_byte (v c : Int) (h0 : 0 ≤ v) (h1 : v * 256 < 18446744073709551616) (hc0 : 0 ≤ c) (hc : c < 256) : bits .or .u64 (IntKind.u64.wrap (v * 256)) (IntKind.u64.wrap c) = v * 256 + c := by
  rw [IntWalk.u64_in (v * 256) (by omega), IntWalk.u64_in c (by omega)]
  exact bits_join .u64 64 (by decide) (fun n h h' => IntWalk.u64_in n ⟨h, by omega⟩) 8 (v * 256) c (by omega) (by omega) (by omega) hc0 (by omega) (by omega)
theorem val_take_succ (l : Bs) (j : Nat) (h : j < l.length) : val (l.take (j + 1)) = val (l.take j) * 256 + l[j].toNat := by
  rw [List.take_succ_eq_append_getElem h, val_snoc]
theorem val_take_lt (l : Bs) (j : Nat) (h : j < l.length) (hj : j < 8) : val (l.take j) * 256 < 18446744073709551616 := by
  have h1 := val_lt (l.take j)
  rw [List.length_take, Nat.min_eq_left (by omega)] at h1
  have h2 : 256 ^ j ≤ 256 ^ 7 := Nat.pow_le_pow_right (by omega) (by omega)
  have h3 : (256 : Nat) ^ 7 * 256 = 256 ^ 8 := (Nat.pow_succ 256 7).symm
  have h4 := pow_256_8
  have h5 := Nat.lt_of_lt_of_le h1 h2
  omega
set_option maxRecDepth 100000 in
set_option maxHeartbeats 400000 in
/-- what the reader makes of a front byte of 248 or more, with as many bytes behind it, the first of them not zero -/
theorem num_long (f c : UInt8) (l : Bs) (b : Nat) (w : World) (hb : IsRd w b (some (f :: c :: l))) (hl : l.length ≤ 1000000) (hf : ¬ f.toNat < 248) (hk : ¬ (c :: l).length < f.toNat - 247) (hc0 : c ≠ 0) :
    Calls Try.prog 47 #[.pointer (some ⟨b, 0, none⟩)] w fun e w' => e = .returned (.int .u64 (rnum (some (f :: c :: l))).1) ∧ IsRd w' b (rnum (some (f :: c :: l))).2 ∧ But w.heap.size b w w' := by
  have hcn : c.toNat ≠ 0 := fun h => hc0 (UInt8.toNat_inj.1 (by simpa using h))
  have E1 : val ((c :: l).take (f.toNat - 247)) < 248 → rnum (some (f :: c :: l)) = (0, none) := by
    intro h
    simp only [rnum, if_neg hf, if_neg hk, List.head?_cons, Option.some.injEq, if_neg hc0, if_pos h]
  have E2 : ¬ val ((c :: l).take (f.toNat - 247)) < 248 → rnum (some (f :: c :: l)) = (val ((c :: l).take (f.toNat - 247)), some ((c :: l).drop (f.toNat - 247))) := by
    intro h
    simp only [rnum, if_neg hf, if_neg hk, List.head?_cons, Option.some.injEq, if_neg hc0, if_neg h]
  have H1 := Lib.hid E1
  have H2 := Lib.hid E2
  clear E1 E2 hc0
  have c0 : w.cell? ⟨b, 0, none⟩ = some (.string (bs (f :: c :: l))) := rd_c0 hb
  have f0 := blk_frozen hb 0
  have hlt := blk_lt hb
  have HB := Lib.hid hb
  clear hb
  have hf3 : f.toNat < 256 := f.toNat_lt
  have hf2 : (248 : Int) ≤ f.toNat := by omega
  have hk2 : (f.toNat : Int) - 247 ≤ ((c :: l).length : Nat) := by omega
  have hc : ((c.toNat : Int) == 0) = false := by simp; omega
  clear hcn
  go_enter Try.func47, Try.ntmps47
  go_wp2_with fail
  go_quiet (fail)
  go_wp2_with fail
  go_loop [2, 51] (fun n i => ∃ (j : Nat) (v : Int), (j : Int) ≤ f.toNat - 247 ∧ i = .int .i64 j ∧ n = .int .u64 v ∧ Hid (v = val ((c :: l).take j))) (fun _ i => (f.toNat - 247) - (intOf i).toNat)
  case atStart => exact ⟨0, 0, by omega, rfl, rfl, rfl⟩
  case round =>
    obtain ⟨j, v, hj, rfl, rfl, hv⟩ := hrel
    have hv0 : 0 ≤ v := by have := hv.out; omega
    by_cases hj2 : (j : Int) < f.toNat - 247
    · go_wp2_with fail
      have hjl : j < (c :: l).length := by simp at hk2 ⊢; omega
      refine ⟨⟨j + 1, v * 256 + ((c :: l)[j].toNat : Int), by omega, by go_num, ?_, ?_⟩, ?_⟩
      · have h1 := val_take_lt (c :: l) j hjl (by omega)
        have h2 := (c :: l)[j].toNat_lt
        rw [or_byte v _ hv0 (by have := hv.out; omega) (by omega) (by omega)]
      · show _ = _
        rw [val_take_succ _ _ hjl, hv.out]; simp
      · simp [intOf]; omega
    · obtain rfl : j = f.toNat - 247 := by omega
      by_cases hv2 : v < 248
      · go_wp2_with fail
        refine (wrong_any (some (f :: c :: l)) b _ _ (by exact blk_cell (blk_drewN (blk_new _ _) nq) 0) (by exact rd_alloc HB.out _)).mono ?_
        rintro e w1 ⟨rfl, hr, hb⟩
        have H3 := Lib.hid hr
        have H4 := Lib.hid ((((but_of_below (Below.refl _ w) b).alloc (Nat.le_refl _) (.cells #[.pointer (some ⟨b, 0, none⟩)] 60)).drewN nq).trans (hb.mono (by simp)))
        clear hr hb
        go_wp2_with fail
        go_ret
        rw [H1.out (by have := hv.out; omega)]
        exact ⟨rfl, H3.out, H4.out⟩
      · go_wp2_with fail
        go_region
        go_wp2_with fail
        go_ret
        clear H1
        rw [H2.out (by have := hv.out; omega)]
        clear H2
        refine ⟨?_, blk_set (rd_alloc HB.out _) 0 _, (((but_of_below (Below.refl _ w) b).alloc (Nat.le_refl _) _).drewN _).set _ _⟩
        have := hv.out
        subst this
        rfl
set_option maxRecDepth 100000 in
set_option maxHeartbeats 400000 in
theorem num_few (f : UInt8) (l : Bs) (b : Nat) (w : World) (hb : IsRd w b (some (f :: l))) (hl : l.length ≤ 1000000) (hf : ¬ f.toNat < 248) (hk : l.length < f.toNat - 247) :
    Calls Try.prog 47 #[.pointer (some ⟨b, 0, none⟩)] w fun e w' => e = .returned (.int .u64 0) ∧ IsRd w' b none ∧ But w.heap.size b w w' := by
  have c0 : w.cell? ⟨b, 0, none⟩ = some (.string (bs (f :: l))) := rd_c0 hb
  have f0 := blk_frozen hb 0
  have hlt := blk_lt hb
  have HB := Lib.hid hb
  clear hb
  have hf3 : f.toNat < 256 := f.toNat_lt
  have hf2 : (248 : Int) ≤ f.toNat := by omega
  have hk2 : (l.length : Int) < (f.toNat : Int) - 247 := by omega
  go_enter Try.func47, Try.ntmps47
  go_wp2_with fail
  go_quiet (fail)
  go_wp2_with fail
  refine (wrong_any (some (f :: l)) b _ _ (by exact blk_cell (blk_drewN (blk_new _ _) nq) 0) (by exact rd_alloc HB.out _)).mono ?_
  rintro e w1 ⟨rfl, hr, hb⟩
  have H3 := Lib.hid hr
  have H4 := Lib.hid ((((but_of_below (Below.refl _ w) b).alloc (Nat.le_refl _) (.cells #[.pointer (some ⟨b, 0, none⟩)] 60)).drewN nq).trans (hb.mono (by simp)))
  clear hr hb
  go_wp2_with fail
  go_ret
  exact ⟨rfl, H3.out, H4.out⟩
set_option maxRecDepth 100000 in
set_option maxHeartbeats 400000 in
theorem num_zero (f : UInt8) (l : Bs) (b : Nat) (w : World) (hb : IsRd w b (some (f :: 0 :: l))) (hl : l.length ≤ 1000000) (hf : ¬ f.toNat < 248) (hk : ¬ ((0 : UInt8) :: l).length < f.toNat - 247) :
    Calls Try.prog 47 #[.pointer (some ⟨b, 0, none⟩)] w fun e w' => e = .returned (.int .u64 0) ∧ IsRd w' b none ∧ But w.heap.size b w w' := by
  have c0 : w.cell? ⟨b, 0, none⟩ = some (.string (bs (f :: 0 :: l))) := rd_c0 hb
  have f0 := blk_frozen hb 0
  have hlt := blk_lt hb
  have HB := Lib.hid hb
  clear hb
  have hf3 : f.toNat < 256 := f.toNat_lt
  have hf2 : (248 : Int) ≤ f.toNat := by omega
  have hk2 : (f.toNat : Int) - 247 ≤ (((0 : UInt8) :: l).length : Nat) := by omega
  go_enter Try.func47, Try.ntmps47
  go_wp2_with fail
  go_quiet (fail)
  go_wp2_with fail
  refine (wrong_any (some (f :: 0 :: l)) b _ _ (by exact blk_cell (blk_drewN (blk_new _ _) nq) 0) (by exact rd_alloc HB.out _)).mono ?_
  rintro e w1 ⟨rfl, hr, hb⟩
  have H3 := Lib.hid hr
  have H4 := Lib.hid ((((but_of_below (Below.refl _ w) b).alloc (Nat.le_refl _) (.cells #[.pointer (some ⟨b, 0, none⟩)] 60)).drewN nq).trans (hb.mono (by simp)))
  clear hr hb
  go_wp2_with fail
  go_ret
  exact ⟨rfl, H3.out, H4.out⟩
/-- (*wire.Reader).Num, of whatever reader -/
theorem num_any (r : Rd) (b : Nat) (w : World) (hb : IsRd w b r) (hl : (r.getD []).length ≤ 1000000) :
    Calls Try.prog 47 #[.pointer (some ⟨b, 0, none⟩)] w fun e w' => e = .returned (.int .u64 (rnum r).1) ∧ IsRd w' b (rnum r).2 ∧ But w.heap.size b w w' := by
  match r, hb, hl with
  | none, hb, _ => exact num_empty _ b w hb (.inl rfl)
  | some [], hb, _ => exact num_empty _ b w hb (.inr rfl)
  | some (f :: l), hb, hl =>
    have hl : l.length ≤ 1000000 := by simp at hl; omega
    by_cases hf : f.toNat < 248
    · have e : rnum (some (f :: l)) = (f.toNat, some l) := by simp only [rnum, if_pos hf]
      rw [e]; exact num_short f l b w hb hl hf
    by_cases hk : l.length < f.toNat - 247
    · have e : rnum (some (f :: l)) = (0, none) := by simp only [rnum, if_neg hf, if_pos hk]
      rw [e]; exact num_few f l b w hb hl hf hk
    match l, hb, hl, hk with
    | [], _, _, hk => simp at hk; omega
    | c :: l, hb, hl, hk =>
      by_cases hc : c = 0
      · subst hc
        have e : rnum (some (f :: 0 :: l)) = (0, none) := by simp only [rnum, if_neg hf, if_neg hk, List.head?_cons, if_pos]
        rw [e]; exact num_zero f l b w hb (by simp at hl; omega) hf hk
      · exact num_long f c l b w hb (by simp at hl; omega) hf hk hc
theorem rnum_length (r : Rd) : ((rnum r).2.getD []).length ≤ (r.getD []).length := by
  match r with
  | none => simp [rnum]
  | some [] => simp [rnum]
  | some (f :: l) =>
    simp only [rnum]
    (repeat' split) <;> simp
    omega
end Go.Proofs.Ytdemkcnhcgiheaa
