/- The document's numbers and texts (sedimentref01): laid, and read, as wire does. Condition: the strings are short. -/
import Derived.Test.YtdemkcnhcgiheaaC
import Derived.Deep.RegionHeld3
namespace Go.Proofs.Ytdemkcnhcgiheaa
open Go.RowKit
/-- a world of a class -/
structure In (C : World → Prop) where
  w : World
  h : C w
/-- a region that draws its order, all of whose operations read alone, and whose calls stay within a class of worlds -/
theorem wp_region_in {P : Program} {id : Nat} {Q : Exit → Act → World → Prop} {a : Act} {w : World} {l : List Oper} (C : World → Prop) (hm : P.follows .mixedOrders = true) (hB : Region.lexB .any l.toArray = true) (h0 : C w.drew)
    (h : wpQuiet P l.toArray (fun W => ∃ x : In C, W = x.w) (fun a' => ∀ x : In C, Q .normal a' x.w) l a) : (Code.region id l.toArray true).wp P Q a w := by
  refine wp_region_quiet (C := fun W => ∃ x : In C, W = x.w) hm hB ⟨⟨w.drew, h0⟩, rfl⟩ ?_
  have hQ : (fun a' => ∀ W, (∃ x : In C, W = x.w) → Q .normal a' W) = (fun a' => ∀ x : In C, Q .normal a' x.w) := by
    funext a'
    apply propext
    exact ⟨fun h x => h _ ⟨x, rfl⟩, fun h W hW => by obtain ⟨x, rfl⟩ := hW; exact h x⟩
  rw [hQ]
  simpa using h
theorem max2_ints (k k' : IntKind) (x y : Int) : Builtin.max2 (.int k x) (.int k' y) = pure (.int k (if x < y then y else x)) := by simp only [Builtin.max2, gt_iff_lt]
theorem max_of_two (ats : Array TypeId) (ty : TypeId) (a b : Value) : Builtin.max_ ats ty #[a, b] = (Builtin.max2 a b >>= fun s => pure s) := by simp only [Builtin.max_, List.foldlM_cons, List.foldlM_nil]
theorem num_big (n : Nat) (h : ¬ n < 248) : num n = UInt8.ofNat (247 + nlen n) :: lows (nlen n) n := by rw [num, if_neg h]
set_option maxHeartbeats 400000 in
theorem refPutNum_any (l : Bs) (n : Nat) (w : World) (h1 : n < 18446744073709551616) (hc : l.length ≤ 1000000) :
    Calls Try.prog 30 #[.string (bs l), .int .u64 n] w fun e w' => e = .returned (.string (bs (l ++ num n))) ∧ Below w.heap.size w w' := by
  have hconv := conv_one
  by_cases hlt : (n : Int) < 248
  · have hn : num n = [UInt8.ofNat n] := by rw [num, if_pos (by omega)]
    rw [hn]
    go_enter Try.func30, Try.ntmps30
    go_wp2_with fail
    go_ret
    exact ⟨rfl, (Below.refl _ _).alloc (Nat.le_refl _) _⟩
  · have hn := num_big n (by omega)
    rw [hn]
    have h8 := nlen_64 h1
    have hpos : 0 < nlen n := by have := nlen_pos (n := n) (by omega); omega
    clear hn
    go_enter Try.func30, Try.ntmps30
    go_wp2_with fail
    go_loopw [1, 5] (fun v d w' => ∃ (k : Nat) (x : Int), k ≤ nlen n ∧ v = .int .u64 x ∧ 0 ≤ x ∧ x < 18446744073709551616 ∧ Hid (x = ((n / 256 ^ k : Nat) : Int)) ∧ d = .string (bs (lows k n)) ∧ Hid (Below w.heap.size w w')) (fun v _ _ => (intOf v).toNat)
    case atStart => exact ⟨0, n, Nat.zero_le _, rfl, by omega, by omega, by show (n : Int) = _; simp, rfl, Below.refl _ _⟩
    case round =>
      obtain ⟨k, x, hk, rfl, hx0, hx1, hx, rfl, hb⟩ := hrel
      have hll := lows_length k n
      by_cases hz : 0 < x
      · have hk' : k < nlen n := by
          rw [nlen_more]; have := hx.out; omega
        have hb8 : UInt8.ofNat (x % 256).toNat :: lows k n = lows (k + 1) n := by
          simp only [lows]
          congr 1
          apply UInt8.toNat_inj.1
          rw [ofNat_toNat_mod, ofNat_toNat_mod]
          have := hx.out
          omega
        have HB8 := Lib.hid hb8
        clear hb8
        go_wp2_with fail
        refine ⟨⟨k + 1, x / 256, hk', rfl, by omega, by omega, ?_, ?_, hb.out.alloc hb.out.size _⟩, by simp [intOf]; omega⟩
        · show x / 256 = _
          rw [hx.out, Nat.pow_succ, ← Nat.div_div_eq_div_mul]; omega
        · rw [← HB8.out]
      · have hkn : k = nlen n := by have h2 := nlen_more k n; have h3 := hx.out; omega
        subst hkn
        go_wp2_with fail
        go_ret
        exact ⟨rfl, hb.out.alloc hb.out.size _⟩
set_option maxHeartbeats 400000 in
theorem refPutText_any (l t : Bs) (w : World) (hc : l.length ≤ 900000) (ht : t.length ≤ 90000) :
    Calls Try.prog 29 #[.string (bs l), .string (bs t)] w fun e w' => e = .returned (.string (bs (l ++ text t))) ∧ Below w.heap.size w w' := by
  go_enter Try.func29, Try.ntmps29
  go_wp2_with fail
  refine (refPutNum_any l t.length _ (by omega) (by omega)).mono ?_
  rintro e w1 ⟨rfl, hb⟩
  have HB := Lib.hid hb
  clear hb
  have hn := num_length_le (n := t.length) (by omega)
  go_wp2_with fail
  go_ret
  exact ⟨rfl, HB.out⟩
def IsRr (w : World) (b : Nat) (r : Rd) : Prop := w.heap[b]? = some (.cells (rdCells r) 65 (0, 0))
theorem rr_c0 {w : World} {b : Nat} {r : Rd} (h : IsRr w b r) : w.cell? ⟨b, 0, none⟩ = some (.string (bs (r.getD []))) := blk_cell h 0
theorem rr_c1 {w : World} {b : Nat} {r : Rd} (h : IsRr w b r) : w.cell? ⟨b, 1, none⟩ = some (.bool r.isNone) := blk_cell h 1
set_option maxHeartbeats 400000 in
theorem fail_any (r : Rd) (b : Nat) (w : World) (hb : IsRr w b r) :
    Calls Try.prog 62 #[.pointer (some ⟨b, 0, none⟩)] w fun e w' => e = .returned (.tuple #[]) ∧ IsRr w' b none ∧ But w.heap.size b w w' := by
  have c0 := rr_c0 hb
  have c1 := rr_c1 hb
  have f0 := blk_frozen hb 0
  have f1 := blk_frozen hb 1
  have HB := Lib.hid hb
  clear hb
  go_enter Try.func62, Try.ntmps62
  go_wp2_with fail
  go_end0
  have h := blk_set (blk_set HB.out 0 (.string (bs []))) 1 (.bool true)
  exact ⟨rfl, h, (((but_of_below (Below.refl _ _) _).set _ _).set _ _)⟩
theorem refOk_any (r : Rd) (b : Nat) (w : World) (hb : IsRr w b r) : Calls Try.prog 53 #[.pointer (some ⟨b, 0, none⟩)] w fun e w' => e = .returned (.bool r.isSome) ∧ w = w' := by
  have c1 := rr_c1 hb
  have HB := Lib.hid hb
  clear hb
  go_enter Try.func53, Try.ntmps53
  go_wp2_with fail
  go_ret
  exact ⟨by cases r <;> rfl, rfl⟩
theorem refEnd_any (r : Rd) (b : Nat) (w : World) (hb : IsRr w b r) : Calls Try.prog 43 #[.pointer (some ⟨b, 0, none⟩)] w fun e w' => e = .returned (.bool (rend r)) ∧ w = w' := by
  have H : ∀ (b1 b2 : Bool), r.isNone = b1 → ((r.getD []).isEmpty) = b2 → (!b1 && b2) = rend r := by
    rintro b1 b2 rfl rfl
    rcases r with _ | (_ | ⟨x, l⟩) <;> rfl
  have c0 := rr_c0 hb
  have c1 := rr_c1 hb
  have HB := Lib.hid hb
  clear hb
  cases h1 : r.isNone
  · rw [h1] at c1
    go_enter Try.func43, Try.ntmps43
    go_wp2_with fail
    go_ret
    exact ⟨by rw [← H _ _ h1 rfl]; rfl, rfl⟩
  · rw [h1] at c1
    go_enter Try.func43, Try.ntmps43
    go_wp2_with fail
    go_ret
    exact ⟨by rw [← H _ _ h1 rfl]; rfl, rfl⟩
theorem rr_below {w w' : World} {B b : Nat} {r : Rd} (hb : Below B w w') (hB : b < B) (h : IsRr w b r) : IsRr w' b r := blk_below hb hB h
theorem rr_but {w w' : World} {B b c : Nat} {r : Rd} (hb : But B c w w') (hB : b < B) (hc : b ≠ c) (h : IsRr w b r) : IsRr w' b r := blk_but hb hB hc h
/-- a number of 248 or more is read just if its bytes are those that it would have -/
theorem rnum_ref {f : UInt8} {l : Bs} (hf : ¬ f.toNat < 248) (hk : ¬ l.length < f.toNat - 247) :
    rnum (some (f :: l)) = if num (val (l.take (f.toNat - 247))) = f :: l.take (f.toNat - 247) then (val (l.take (f.toNat - 247)), some (l.drop (f.toNat - 247))) else (0, none) := by
  split
  · rename_i h
    have hlt : val (l.take (f.toNat - 247)) < 18446744073709551616 := by
      have h1 := val_lt (l.take (f.toNat - 247))
      rw [List.length_take, Nat.min_eq_left (by omega)] at h1
      have hf2 := f.toNat_lt
      have h2 : 256 ^ (f.toNat - 247) ≤ 256 ^ 8 := Nat.pow_le_pow_right (by omega) (by omega)
      rw [pow_256_8] at h2
      omega
    have h2 := rnum_num _ hlt (l.drop (f.toNat - 247))
    rw [h, List.cons_append, List.take_append_drop] at h2
    exact h2
  · rename_i h
    cases hr : rnum (some (f :: l)) with
    | mk n o =>
      cases o with
      | none => rw [rnum_none hr]
      | some rest =>
        exfalso
        have h1 := (rnum_some hr).1
        simp only [rnum, if_neg hf, if_neg hk] at hr
        by_cases h3 : l.head? = some 0
        · rw [if_pos h3] at hr; simp at hr
        rw [if_neg h3] at hr
        by_cases h4 : val (l.take (f.toNat - 247)) < 248
        · rw [if_pos h4] at hr; simp at hr
        rw [if_neg h4] at hr
        simp only [Prod.mk.injEq, Option.some.injEq] at hr
        obtain ⟨rfl, rfl⟩ := hr
        apply h
        have h5 : f :: (l.take (f.toNat - 247) ++ l.drop (f.toNat - 247)) = num (val (l.take (f.toNat - 247))) ++ l.drop (f.toNat - 247) := by rw [List.take_append_drop]; exact h1
        rw [← List.cons_append] at h5
        exact (List.append_cancel_right h5).symm
/-- the worlds in which a reader is as it was, and nothing else that was there has turned -/
def RrC (w : World) (b : Nat) (r : Rd) (W : World) : Prop := IsRr W b r ∧ Below w.heap.size w W
set_option maxRecDepth 100000 in
set_option maxHeartbeats 400000 in
theorem refNum_empty (r : Rd) (b : Nat) (w : World) (hb : IsRr w b r) (hr : r = none ∨ r = some []) :
    Calls Try.prog 52 #[.pointer (some ⟨b, 0, none⟩)] w fun e w' => e = .returned (.int .u64 (rnum r).1) ∧ IsRr w' b (rnum r).2 ∧ But w.heap.size b w w' := by
  have e1 : (rnum r) = (0, none) := by rcases hr with rfl | rfl <;> rfl
  have c0 : w.cell? ⟨b, 0, none⟩ = some (.string (bs [])) := by rcases hr with rfl | rfl <;> exact rr_c0 hb
  have HB := Lib.hid hb
  rw [e1]
  clear hb e1 hr
  go_enter Try.func52, Try.ntmps52
  go_wp2_with fail
  refine (fail_any r b _ HB.out).mono ?_
  rintro e w1 ⟨rfl, hr, hb⟩
  have H1 := Lib.hid hr
  have H2 := Lib.hid hb
  clear hr hb
  go_wp2_with fail
  go_ret
  exact ⟨rfl, H1.out, H2.out⟩
set_option maxRecDepth 100000 in
set_option maxHeartbeats 400000 in
theorem refNum_short (f : UInt8) (l : Bs) (b : Nat) (w : World) (hb : IsRr w b (some (f :: l))) (hl : l.length ≤ 1000000) (hf : f.toNat < 248) :
    Calls Try.prog 52 #[.pointer (some ⟨b, 0, none⟩)] w fun e w' => e = .returned (.int .u64 f.toNat) ∧ IsRr w' b (some l) ∧ But w.heap.size b w w' := by
  have c0 : w.cell? ⟨b, 0, none⟩ = some (.string (bs (f :: l))) := rr_c0 hb
  have f0 := blk_frozen hb 0
  have HB := Lib.hid hb
  clear hb
  have hf2 : (f.toNat : Int) ≤ 247 := by omega
  have hblt := blk_lt HB.out
  have hm : ∀ W, (Builtin.max_ #[3, 3] 3 #[.int .i64 ((f.toNat : Int) - 247), .int .i64 0]).run Try.prog W = .ok (.int .i64 0) W := by
    intro W
    rw [max_of_two, max2_ints]
    by_cases h : (f.toNat : Int) - 247 < 0
    · rw [if_pos h]; rfl
    · rw [if_neg h, show (f.toNat : Int) - 247 = 0 by omega]; rfl
  have hn1 : num f.toNat = [f] := by rw [num, if_pos hf, UInt8.ofNat_toNat]
  have HN := Lib.hid hn1
  clear hn1
  go_enter Try.func52, Try.ntmps52
  go_wp2_with fail
  go_loop [4, 5] (fun n i => i = .int .i64 1 ∧ n = .int .u64 (f.toNat : Int)) (fun _ _ => 0)
  case atStart => exact ⟨rfl, rfl⟩
  case round =>
    obtain ⟨rfl, rfl⟩ := hrel
    go_wp2_with fail
    have hw1 : IntKind.i64.wrap ((1 : Int) + 0) = 1 := rfl
    have hb1 : (1 : Int) ≤ (l.length : Int) + 1 := by omega
    have hb2 : (1 : Int) ≤ ((l.length + 1 : Nat) : Int) := by omega
    have hPN : ∀ x : In (RrC w b (some (f :: l))), Calls Try.prog 30 #[.string ⟨#[]⟩, .int .u64 (f.toNat : Int)] x.w fun e w' => e = .returned (.string (bs [f])) ∧ ∃ y : In (RrC w b (some (f :: l))), w' = y.w := by
      rintro ⟨W, hW, hWB⟩
      refine (refPutNum_any [] f.toNat W (by omega) (by simp)).mono ?_
      rintro e w1 ⟨rfl, hb⟩
      rw [HN.out]
      exact ⟨rfl, ⟨w1, rr_below hb (blk_lt hW) hW, hWB.trans (hb.mono hWB.size)⟩, rfl⟩
    have hcell : ∀ x : In (RrC w b (some (f :: l))), x.w.cell? ⟨b, 0, none⟩ = some (.string (bs (f :: l))) := fun x => rr_c0 x.h.1
    have hfr : ∀ x : In (RrC w b (some (f :: l))), x.w.frozen? ⟨b, 0, none⟩ = false := fun x => blk_frozen x.h.1 0
    have HPN := Lib.hid hPN
    have HC : Hid (RrC w b (some (f :: l)) w.drew) := ⟨HB.out, (Below.refl _ _).drew⟩
    have hne : Nonempty (In (RrC w b (some (f :: l)))) := ⟨⟨_, HC.out⟩⟩
    clear hPN HN HB hm hblt c0 f0
    refine wp_region_in (RrC w b (some (f :: l))) (by kernel_rfl) (by kernel_rfl) HC.out ?_
    repeat (any_goals (first | go_big_quiet_step ((go_at_call 30; exact HPN.out _)) | quiet_step ((go_at_call 30; exact HPN.out _))))
    refine wpQuiet_nil ?_
    intro x
    go_wp2_with fail
    go_ret
    exact ⟨rfl, blk_set x.h.1 0 _, (but_of_below x.h.2 b).set _ _⟩
set_option maxRecDepth 100000 in
set_option maxHeartbeats 400000 in
theorem refNum_few (f : UInt8) (l : Bs) (b : Nat) (w : World) (hb : IsRr w b (some (f :: l))) (_hl : l.length ≤ 1000000) (hf : ¬ f.toNat < 248) (hk : l.length < f.toNat - 247) :
    Calls Try.prog 52 #[.pointer (some ⟨b, 0, none⟩)] w fun e w' => e = .returned (.int .u64 0) ∧ IsRr w' b none ∧ But w.heap.size b w w' := by
  have c0 : w.cell? ⟨b, 0, none⟩ = some (.string (bs (f :: l))) := rr_c0 hb
  have HB := Lib.hid hb
  clear hb
  have hf3 : f.toNat < 256 := f.toNat_lt
  have hf2 : (248 : Int) ≤ f.toNat := by omega
  have hk2 : (l.length : Int) < (f.toNat : Int) - 247 := by omega
  have hm : ∀ W, (Builtin.max_ #[3, 3] 3 #[.int .i64 ((f.toNat : Int) - 247), .int .i64 0]).run Try.prog W = .ok (.int .i64 ((f.toNat : Int) - 247)) W := by
    intro W
    rw [max_of_two, max2_ints, if_neg (by omega)]; rfl
  go_enter Try.func52, Try.ntmps52
  go_wp2_with fail
  refine (fail_any _ b _ HB.out).mono ?_
  rintro e w1 ⟨rfl, hr, hb⟩
  have H3 := Lib.hid hr
  have H4 := Lib.hid hb
  clear hr hb
  go_wp2_with fail
  go_ret
  exact ⟨rfl, H3.out, H4.out⟩
set_option maxRecDepth 100000 in
set_option maxHeartbeats 400000 in
theorem refNum_long (f : UInt8) (l : Bs) (b : Nat) (w : World) (hb : IsRr w b (some (f :: l))) (hl : l.length ≤ 1000000) (hf : ¬ f.toNat < 248) (hk : ¬ l.length < f.toNat - 247) :
    Calls Try.prog 52 #[.pointer (some ⟨b, 0, none⟩)] w fun e w' => e = .returned (.int .u64 (rnum (some (f :: l))).1) ∧ IsRr w' b (rnum (some (f :: l))).2 ∧ But w.heap.size b w w' := by
  have hr0 := rnum_ref hf hk
  generalize rnum (some (f :: l)) = res at hr0 ⊢
  have HR := Lib.hid hr0
  clear hr0
  have c0 : w.cell? ⟨b, 0, none⟩ = some (.string (bs (f :: l))) := rr_c0 hb
  have HB := Lib.hid hb
  clear hb
  have hf3 : f.toNat < 256 := f.toNat_lt
  have hf2 : (248 : Int) ≤ f.toNat := by omega
  have hk2 : (f.toNat : Int) - 247 ≤ l.length := by omega
  have hm : ∀ W, (Builtin.max_ #[3, 3] 3 #[.int .i64 ((f.toNat : Int) - 247), .int .i64 0]).run Try.prog W = .ok (.int .i64 ((f.toNat : Int) - 247)) W := by
    intro W
    rw [max_of_two, max2_ints, if_neg (by omega)]; rfl
  have hdec2 : decide ((247 : Int) < f.toNat) = true := by simp; omega
  have hdec : decide ((l.length : Int) + 1 < 1 + ((f.toNat : Int) - 247)) = false := by simp; omega
  go_enter Try.func52, Try.ntmps52
  go_wp2_with fail
  go_loop [4, 5] (fun n i => ∃ (j : Nat) (v : Int), (j : Int) ≤ f.toNat - 247 ∧ i = .int .i64 ((j : Int) + 1) ∧ n = .int .u64 v ∧ 0 ≤ v ∧ Hid (v = val (l.take j))) (fun _ i => f.toNat - (intOf i).toNat)
  case atStart => exact ⟨0, 0, by omega, rfl, rfl, by omega, rfl⟩
  case round =>
    obtain ⟨j, v, hj, rfl, rfl, hv0, hv⟩ := hrel
    by_cases hj2 : (j : Int) < f.toNat - 247
    · have hjl : j < l.length := by omega
      have h1 := val_take_lt l j hjl (by omega)
      have hvb : v ≤ 72057594037927935 := by have := hv.out; omega
      have h2 := l[j].toNat_lt
      have hval := val_take_succ l j hjl
      have HVS := Lib.hid hval
      have hle : (j : Int) + 1 ≤ (f.toNat : Int) - 247 := by omega
      clear hval h1
      go_wp2_with fail
      refine ⟨⟨j + 1, 256 * v + (l[j].toNat : Int), by omega, by go_num, rfl, by omega, ?_⟩, by simp [intOf]; omega⟩
      show _ = _
      rw [HVS.out, hv.out]; omega
    · obtain rfl : j = f.toNat - 247 := by omega
      have hjj : ((f.toNat - 247 : Nat) : Int) = (f.toNat : Int) - 247 := by omega
      rw [hjj]
      have hvlt : val (l.take (f.toNat - 247)) < 18446744073709551616 := by
        have h1 := val_lt (l.take (f.toNat - 247))
        rw [List.length_take, Nat.min_eq_left (by omega)] at h1
        have h2 : 256 ^ (f.toNat - 247) ≤ 256 ^ 8 := Nat.pow_le_pow_right (by omega) (by omega)
        rw [pow_256_8] at h2
        omega
      have hvv := hv.out
      subst hvv
      generalize val (l.take (f.toNat - 247)) = N at *
      clear hv hv0 hjj hj
      have hPN : ∀ x : In (RrC w b (some (f :: l))), Calls Try.prog 30 #[.string ⟨#[]⟩, .int .u64 (N : Int)] x.w fun e w' => e = .returned (.string (bs (num N))) ∧ ∃ y : In (RrC w b (some (f :: l))), w' = y.w := by
        rintro ⟨W, hW, hWB⟩
        refine (refPutNum_any [] N W hvlt (by simp)).mono ?_
        rintro e w1 ⟨rfl, hb⟩
        exact ⟨rfl, ⟨w1, rr_below hb (blk_lt hW) hW, hWB.trans (hb.mono hWB.size)⟩, rfl⟩
      have hcell : ∀ x : In (RrC w b (some (f :: l))), x.w.cell? ⟨b, 0, none⟩ = some (.string (bs (f :: l))) := fun x => rr_c0 x.h.1
      have hcell1 : ∀ x : In (RrC w b (some (f :: l))), x.w.cell? ⟨b, 1, none⟩ = some (.bool false) := fun x => rr_c1 x.h.1
      have hfr : ∀ x : In (RrC w b (some (f :: l))), x.w.frozen? ⟨b, 0, none⟩ = false := fun x => blk_frozen x.h.1 0
      have hfr1 : ∀ x : In (RrC w b (some (f :: l))), x.w.frozen? ⟨b, 1, none⟩ = false := fun x => blk_frozen x.h.1 1
      have HPN := Lib.hid hPN
      have HC : Hid (RrC w b (some (f :: l)) w.drew) := ⟨HB.out, (Below.refl _ _).drew⟩
      have hne : Nonempty (In (RrC w b (some (f :: l)))) := ⟨⟨_, HC.out⟩⟩
      have hkn : (1 + ((f.toNat : Int) - 247)).toNat = f.toNat - 247 + 1 := by omega
      have hkw : IntKind.i64.wrap (1 + ((f.toNat : Int) - 247)) = 1 + ((f.toNat : Int) - 247) := IntWalk.i64_in _ (by omega)
      have hk0 : 0 ≤ 1 + ((f.toNat : Int) - 247) := by omega
      have hk1 : 1 + ((f.toNat : Int) - 247) ≤ ((l.length + 1 : Nat) : Int) := by omega
      have hk3 : 1 + ((f.toNat : Int) - 247) ≤ (l.length : Int) + 1 := by omega
      clear hPN HB hm c0
      by_cases he : num N = f :: l.take (f.toNat - 247)
      · have hres := HR.out
        rw [if_pos he] at hres
        subst hres
        rw [he] at HPN
        clear he HR
        go_wp2_with fail
        refine wp_region_in (RrC w b (some (f :: l))) (by kernel_rfl) (by kernel_rfl) HC.out ?_
        repeat (any_goals (first | go_big_quiet_step ((go_at_call 30; exact HPN.out _)) | quiet_step ((go_at_call 30; exact HPN.out _))))
        refine wpQuiet_nil ?_
        intro x
        go_wp2_with fail
        go_ret
        exact ⟨rfl, blk_set x.h.1 0 _, (but_of_below x.h.2 b).set _ _⟩
      · have hres := HR.out
        rw [if_neg he] at hres
        subst hres
        have hne2 : (num N == f :: l.take (f.toNat - 247)) = false := by simpa using he
        clear he HR
        go_wp2_with fail
        refine wp_region_in (RrC w b (some (f :: l))) (by kernel_rfl) (by kernel_rfl) HC.out ?_
        repeat (any_goals (first | go_big_quiet_step ((go_at_call 30; exact HPN.out _)) | quiet_step ((go_at_call 30; exact HPN.out _))))
        refine wpQuiet_nil ?_
        intro x
        have HX := Lib.hid x.h
        go_wp2_with fail
        refine (fail_any _ b _ HX.out.1).mono ?_
        rintro e w1 ⟨rfl, hr, hb⟩
        have H3 := Lib.hid hr
        have H4 := Lib.hid hb
        clear hr hb
        go_wp2_with fail
        go_ret
        exact ⟨rfl, H3.out, (but_of_below HX.out.2 b).trans (H4.out.mono HX.out.2.size)⟩
/-- the document's Num, of whatever reader: as wire's -/
theorem refNum_any (r : Rd) (b : Nat) (w : World) (hb : IsRr w b r) (hl : (r.getD []).length ≤ 1000000) :
    Calls Try.prog 52 #[.pointer (some ⟨b, 0, none⟩)] w fun e w' => e = .returned (.int .u64 (rnum r).1) ∧ IsRr w' b (rnum r).2 ∧ But w.heap.size b w w' := by
  match r, hb, hl with
  | none, hb, _ => exact refNum_empty _ b w hb (.inl rfl)
  | some [], hb, _ => exact refNum_empty _ b w hb (.inr rfl)
  | some (f :: l), hb, hl =>
    have hl : l.length ≤ 1000000 := by simp at hl; omega
    by_cases hf : f.toNat < 248
    · have e : rnum (some (f :: l)) = (f.toNat, some l) := by simp only [rnum, if_pos hf]
      rw [e]; exact refNum_short f l b w hb hl hf
    by_cases hk : l.length < f.toNat - 247
    · have e : rnum (some (f :: l)) = (0, none) := by simp only [rnum, if_neg hf, if_pos hk]
      rw [e]; exact refNum_few f l b w hb hl hf hk
    exact refNum_long f l b w hb hl hf hk
set_option maxHeartbeats 400000 in
theorem refText_bad (r : Rd) (b : Nat) (w : World) (hb : IsRr w b r) (hl : (r.getD []).length ≤ 1000000) (hr : rnum r = (0, none)) :
    Calls Try.prog 54 #[.pointer (some ⟨b, 0, none⟩)] w fun e w' => e = .returned (.string (bs [])) ∧ IsRr w' b none ∧ But w.heap.size b w w' := by
  have HB := Lib.hid hb
  have HL := Lib.hid hl
  have HR := Lib.hid hr
  clear hb hl hr
  go_enter Try.func54, Try.ntmps54
  go_wp2_with fail
  refine (refNum_any r b w HB.out HL.out).mono ?_
  rintro e w1 ⟨rfl, hr, hb⟩
  rw [HR.out] at hr ⊢
  have c0 : w1.cell? ⟨b, 0, none⟩ = some (.string (bs [])) := rr_c0 hr
  have f0 := blk_frozen hr 0
  have H3 := Lib.hid hr
  have H4 := Lib.hid hb
  clear hr hb
  go_wp2_with fail
  go_ret
  exact ⟨rfl, blk_set H3.out 0 _, H4.out.set _ _⟩
set_option maxHeartbeats 400000 in
theorem refText_over (r : Rd) (n : Nat) (l : Bs) (b : Nat) (w : World) (hb : IsRr w b r) (hl : (r.getD []).length ≤ 1000000) (hr : rnum r = (n, some l)) (_hn : n < 18446744073709551616) (hc : (l.length : Int) < n) :
    Calls Try.prog 54 #[.pointer (some ⟨b, 0, none⟩)] w fun e w' => e = .returned (.string (bs [])) ∧ IsRr w' b none ∧ But w.heap.size b w w' := by
  have hll : l.length ≤ 1000000 := by have := rnum_length r; rw [hr] at this; simp at this; omega
  have HB := Lib.hid hb
  have HL := Lib.hid hl
  have HR := Lib.hid hr
  clear hb hl hr
  go_enter Try.func54, Try.ntmps54
  go_wp2_with fail
  refine (refNum_any r b w HB.out HL.out).mono ?_
  rintro e w1 ⟨rfl, hr, hb⟩
  rw [HR.out] at hr ⊢
  have c0 : w1.cell? ⟨b, 0, none⟩ = some (.string (bs l)) := rr_c0 hr
  have H3 := Lib.hid hr
  have H4 := Lib.hid hb
  clear hr hb
  go_wp2_with fail
  refine (fail_any _ b _ H3.out).mono ?_
  rintro e w2 ⟨rfl, hr2, hb2⟩
  have H5 := Lib.hid hr2
  have H6 := Lib.hid hb2
  clear hr2 hb2
  go_wp2_with fail
  go_ret
  exact ⟨rfl, H5.out, H4.out.trans (H6.out.mono H4.out.size)⟩
set_option maxHeartbeats 400000 in
theorem refText_good (r : Rd) (n : Nat) (l : Bs) (b : Nat) (w : World) (hb : IsRr w b r) (hl : (r.getD []).length ≤ 1000000) (hr : rnum r = (n, some l)) (_hn : n < 18446744073709551616) (hc : (n : Int) ≤ l.length) :
    Calls Try.prog 54 #[.pointer (some ⟨b, 0, none⟩)] w fun e w' => e = .returned (.string (bs (l.take n))) ∧ IsRr w' b (some (l.drop n)) ∧ But w.heap.size b w w' := by
  have hll : l.length ≤ 1000000 := by have := rnum_length r; rw [hr] at this; simp at this; omega
  have HB := Lib.hid hb
  have HL := Lib.hid hl
  have HR := Lib.hid hr
  clear hb hl hr
  go_enter Try.func54, Try.ntmps54
  go_wp2_with fail
  refine (refNum_any r b w HB.out HL.out).mono ?_
  rintro e w1 ⟨rfl, hr, hb⟩
  rw [HR.out] at hr ⊢
  have c0 : w1.cell? ⟨b, 0, none⟩ = some (.string (bs l)) := rr_c0 hr
  have f0 := blk_frozen hr 0
  have H3 := Lib.hid hr
  have H4 := Lib.hid hb
  clear hr hb
  go_wp2_with fail
  go_ret
  exact ⟨rfl, blk_set H3.out 0 _, H4.out.set _ _⟩
theorem rnum_bound {r : Rd} {n : Nat} {l : Bs} (h : rnum r = (n, some l)) : n < 18446744073709551616 := by
  match r, h with
  | none, h => simp [rnum] at h
  | some s, h => exact (rnum_some h).2
/-- the document's Text, of whatever reader: as wire's -/
theorem refText_any (r : Rd) (b : Nat) (w : World) (hb : IsRr w b r) (hl : (r.getD []).length ≤ 1000000) :
    Calls Try.prog 54 #[.pointer (some ⟨b, 0, none⟩)] w fun e w' => e = .returned (.string (bs (rtext r).1)) ∧ IsRr w' b (rtext r).2 ∧ But w.heap.size b w w' := by
  unfold rtext
  cases hr : rnum r with
  | mk n o =>
    cases o with
    | none =>
      obtain rfl := rnum_none hr
      exact refText_bad r b w hb hl hr
    | some l =>
      dsimp only
      by_cases hc : l.length < n
      · rw [if_pos hc]; exact refText_over r n l b w hb hl hr (rnum_bound hr) (by omega)
      · rw [if_neg hc]; exact refText_good r n l b w hb hl hr (rnum_bound hr) (by omega)
end Go.Proofs.Ytdemkcnhcgiheaa
