/-
  What the law's 'read', 'text', 'Of' and 'shown' return. Condition: the variables that the program's text lays.
-/
import Derived.Test.YthmmjihldkjhhaaGreatDoorPtext
import Derived.Test.YthmmjihldkjhhaaGreatDoorRread
import Derived.Test.YthmmjihldkjhhaaGreatDoorPdigits
import Derived.Test.YthmmjihldkjhhaaGreatDoorPchecked
import Derived.Test.YthmmjihldkjhhaaGreatDoorPround
import Derived.Test.YthmmjihldkjhhaaGreatDoorPdiv
namespace Go.Proofs.YthmmjihldkjhhaaGreatDoor
open Go Go.RowKit

set_option maxRecDepth 100000 in
set_option maxHeartbeats 4000000 in
theorem lread_is (s : ByteArray) (hs : s.size ≤ 400) (r : Res) (hr : readR (bts s) = r) (w : World) : Calls Tryz.prog 35 #[.string s] w fun e w' => e = .returned (.agg #[.bool r.n, .string r.s, .int .i64 r.S]) ∧ Below w.heap.size w w' := by
  have C : Hid _ := Lib.hid (rread_is s hs r hr)
  clear hr
  obtain ⟨n, t, S, k⟩ := r
  simp only at C ⊢
  go_enter Tryz.func35, Tryz.ntmps35
  go_wp2_with (first
    | (have _t := hs; refine wl_allocA rfl zero_dec rfl (fun W2 b2 hb => ?_); have hB := hb; clear hb hs _t)
    | (go_at_call 10; refine (C.out _).mono ?_; rintro e W3 ⟨rfl, hb⟩; have l3 := b2.lt; replace hB := below_step hB hb; replace b2 := b2.keep hb; clear hb)
    | (refine wl_allocA rfl zero_dec rfl (fun W4 b4 hb => ?_); have l4 := b2.lt; have l44 := hB.size; replace hB := below_step hB hb; replace b2 := b2.keep hb; clear hb)
    | (refine wl_storeA b4 rfl _ _ rfl rfl rfl (by kernel_rfl) rfl rfl rfl (fun W5 b5 hg => ?_); replace b2 := b2.far hg (by omega); replace hB := below_far hB hB.size (by omega) hg; clear hg)
    | (refine wl_loadA (ty := 23) b5 rfl (by kernel_rfl) _ rfl rfl ?_)
    | (refine wl_storeA b2 rfl _ _ rfl rfl rfl (by kernel_rfl) rfl rfl rfl (fun W6 b6 hg => ?_); replace hB := below_far hB hB.size (by omega) hg; clear hg))
  exact bodyPost_ret (res_cell rfl b6 (by kernel_rfl) rfl) rfl ⟨rfl, hB⟩
set_option maxRecDepth 100000 in
set_option maxHeartbeats 4000000 in
theorem ltext_ok (n : Bool) (s : ByteArray) (S : Int) (hs : s.size ≤ 1000000) (t : ByteArray) (k : Int) (hr : textR n s S = (t, k)) (w : World) : Calls Tryz.prog 36 #[.agg #[.bool n, .string s, .int .i64 S], .int .i64 0] w fun e w' => e = .returned (.string t) ∧ Below w.heap.size w w' := by
  have C : Hid _ := Lib.hid (ptext_is n s S hs t k hr)
  clear hr
  go_enter Tryz.func36, Tryz.ntmps36
  go_wp2_with (first
    | (refine wl_boxA rfl (.tmp 0) rfl rfl (fun W2 b2 hb2 => ?_); have hB := hb2; clear hb2)
    | (refine wl_loadA (ty := 23) b2 rfl (by kernel_rfl) _ rfl rfl ?_)
    | (go_at_call 11; refine (C.out _).mono ?_; rintro e W3 ⟨rfl, hb⟩; replace hB := below_step hB hb; clear hb))
  go_ret
  go_light
  exact ⟨rfl, hB⟩
end Go.Proofs.YthmmjihldkjhhaaGreatDoor
namespace Go.Proofs.YthmmjihldkjhhaaGreatDoor
open Go Go.RowKit

theorem fint_any (n : Int) (h0 : -9223372036854775808 ≤ n) (h1 : n ≤ 9223372036854775807) (w : World) (hP : Pow w) : Calls Tryz.prog 47 #[.int .i64 n, .int .i64 10] w fun e w' => (∃ t : ByteArray, e = .returned (.string t) ∧ t.data.toList = Lib.itoa n) ∧ Below w.heap.size w w' := by
  refine (Tryz.strconv_FormatInt_10 n h0 h1 w hP).mono ?_
  rintro e w' ⟨rfl, k, os, rfl⟩
  exact ⟨⟨_, rfl, rfl⟩, Lib.below_grow _ _ (Nat.le_refl _) _ _⟩
theorem tpre_any (s : ByteArray) (l : List UInt8) (h : Lib.trimPrefix s.data.toList [45] = l) (w : World) : Calls Tryz.prog 48 #[.string s, .string ⟨#[45]⟩] w fun e w' => (∃ t : ByteArray, e = .returned (.string t) ∧ t.data.toList = l) ∧ w = w' :=
  (Tryz.strings_TrimPrefix s ⟨#[45]⟩ w).mono fun _ _ ⟨he, hw⟩ => ⟨⟨_, he, h⟩, hw.symm⟩
theorem dec_head (u : Nat) : ∀ r, Lib.decDigits u ≠ 45 :: r := fun r h => by
  have h1 := decDigits_digs u
  rw [h] at h1
  have := Dc.digs_dig u
  rw [← h1] at this
  simp [Dc.dig] at this
theorem tpre_same (s : ByteArray) (h : ∀ r, s.data.toList ≠ 45 :: r) (w : World) : Calls Tryz.prog 48 #[.string s, .string ⟨#[45]⟩] w fun e w' => e = .returned (.string s) ∧ w = w' := by
  refine (Tryz.strings_TrimPrefix s ⟨#[45]⟩ w).mono ?_
  rintro e w' ⟨rfl, hw⟩
  refine ⟨?_, hw.symm⟩
  have hp : Lib.hasPrefix s.data.toList [45] = false := by
    unfold Lib.hasPrefix
    cases hl : s.data.toList with
    | nil => rfl
    | cons c r =>
      have hc : (45 == c) = false := beq_eq_false_iff_ne.2 (fun e => h r (by rw [hl, e]))
      simp [List.isPrefixOf, hc]
  show Ending.returned (.string ⟨(Lib.trimPrefix s.data.toList [45]).toArray⟩) = _
  unfold Lib.trimPrefix
  rw [hp]; rfl
theorem cell3 {w : World} {g : Nat} {cs : Array Value} {t : TypeId} (h : w.heap[g]? = some (.cells cs t)) {j : Nat} {v : Value} (hv : cs[j]? = some v) : w.cell? ⟨g, j, none⟩ = some v := by simp [World.cell?, h, hv]
theorem open3 {w : World} {g : Nat} {cs : Array Value} {t : TypeId} (h : w.heap[g]? = some (.cells cs t)) (j : Nat) : w.frozen? ⟨g, j, none⟩ = false := by simp [World.frozen?, h]
theorem blk_keep {w w1 : World} {o : Obj} (hb : Below (w.alloc o).heap.size (w.alloc o) w1) : w1.heap[w.heap.size]? = some o := (hb.block _ (by simp)).trans (heap_alloc_last w o)
set_option maxRecDepth 100000 in
set_option maxHeartbeats 1000000 in
theorem pOf_pos (u : Nat) (h1 : (u : Int) ≤ 9223372036854775807) (w : World) (hP : Pow w) : Calls Tryz.prog 15 #[.int .i64 (u : Int)] w fun e w' => e = .returned (.agg #[.bool false, .string (str (Dc.digs u)), .int .i64 0]) ∧ Below w.heap.size w w' := by
  have C : Hid (∀ w, Pow w → _) := Lib.hid (fint_any (u : Int) (by omega) h1)
  have HP : Hid _ := Lib.hid hP
  clear hP
  go_enter Tryz.func15, Tryz.ntmps15
  go_wp2_with (first
    | (go_at_call 47; refine (C.out _ (HP.out.keep ((Below.refl _ w).alloc (Nat.le_refl _) _))).mono ?_; rintro e w1 ⟨⟨t, rfl, ht⟩, hb⟩; have HT : Hid _ := Lib.hid ht; have HB : Hid _ := Lib.hid hb; have k1 := blk_keep hb; have e0 := cell3 k1 (j := 0) rfl; have e1 := cell3 k1 (j := 1) rfl; have e2 := cell3 k1 (j := 2) rfl; have f0 := open3 k1 0; have f1 := open3 k1 1; have f2 := open3 k1 2; clear k1 ht hb; have HQ : Hid (bts t = Dc.digs u) := Lib.hid (by show t.data.toList.map UInt8.toNat = _; rw [HT.out, Lib.itoa_nonneg, decDigits_digs]))
    | (go_at_call 48; refine (tpre_same t (by rw [HT.out, Lib.itoa_nonneg]; exact dec_head u) _).mono ?_; rintro e w2 ⟨rfl, rfl⟩))
  refine bodyPost_ret (v := .agg #[.bool false, .string t, .int .i64 0]) (by simp [results, Tryz.results15, go_sem, e0, e1, e2]) rfl ⟨by rw [← HQ.out, str_bts], ?_⟩
  have B0 : Below w.heap.size w (w.alloc (.cells #[.bool false, .string ⟨#[]⟩, .int .i64 0] 23)) := (Below.refl _ w).alloc (Nat.le_refl _) _
  exact (((B0.trans (HB.out.mono B0.size)).setCell (p := ⟨w.heap.size, 0, none⟩) (Nat.le_refl _) _).setCell (p := ⟨w.heap.size, 1, none⟩) (Nat.le_refl _) _).setCell (p := ⟨w.heap.size, 2, none⟩) (Nat.le_refl _) _
theorem tpre_cut (s : ByteArray) (l : List UInt8) (h : s.data.toList = 45 :: l) (w : World) : Calls Tryz.prog 48 #[.string s, .string ⟨#[45]⟩] w fun e w' => (∃ t : ByteArray, e = .returned (.string t) ∧ t.data.toList = l) ∧ w = w' := by
  refine tpre_any s l ?_ w
  unfold Lib.trimPrefix Lib.hasPrefix
  rw [h]
  simp [List.isPrefixOf]
set_option maxRecDepth 100000 in
set_option maxHeartbeats 1000000 in
theorem pOf_neg (u : Nat) (hu : 1 ≤ u) (h1 : (u : Int) ≤ 9223372036854775808) (w : World) (hP : Pow w) : Calls Tryz.prog 15 #[.int .i64 (-(u : Int))] w fun e w' => e = .returned (.agg #[.bool true, .string (str (Dc.digs u)), .int .i64 0]) ∧ Below w.heap.size w w' := by
  have C : Hid (∀ w, Pow w → _) := Lib.hid (fint_any (-(u : Int)) (by omega) (by omega))
  have HP : Hid _ := Lib.hid hP
  clear hP
  go_enter Tryz.func15, Tryz.ntmps15
  go_wp2_with (first
    | (go_at_call 47; refine (C.out _ (HP.out.keep ((Below.refl _ w).alloc (Nat.le_refl _) _))).mono ?_; rintro e w1 ⟨⟨t, rfl, ht⟩, hb⟩; have HT : Hid _ := Lib.hid ht; have HB : Hid _ := Lib.hid hb; have k1 := blk_keep hb; have e0 := cell3 k1 (j := 0) rfl; have e1 := cell3 k1 (j := 1) rfl; have e2 := cell3 k1 (j := 2) rfl; have f0 := open3 k1 0; have f1 := open3 k1 1; have f2 := open3 k1 2; clear k1 ht hb; have hTl : Hid (t.data.toList = 45 :: Lib.decDigits u) := Lib.hid (by rw [HT.out, Lib.itoa_neg u hu]))
    | (go_at_call 48; refine (tpre_cut t _ hTl.out _).mono ?_; rintro e w2 ⟨⟨t2, rfl, ht2⟩, rfl⟩; have HQ : Hid (bts t2 = Dc.digs u) := Lib.hid (by show t2.data.toList.map UInt8.toNat = _; rw [ht2, decDigits_digs]); have qd : (t2.toList == t.toList) = false := (by rw [toList_beq]; exact decide_eq_false (fun h => by have h2 := congrArg List.length h; have h3 := hTl.out; simp [bts, ht2, h3] at h2)); clear ht2))
  refine bodyPost_ret (v := .agg #[.bool true, .string t2, .int .i64 0]) (by simp [results, Tryz.results15, go_sem, e0, e1, e2]) rfl ⟨by rw [← HQ.out, str_bts], ?_⟩
  have B0 : Below w.heap.size w (w.alloc (.cells #[.bool false, .string ⟨#[]⟩, .int .i64 0] 23)) := (Below.refl _ w).alloc (Nat.le_refl _) _
  exact (((B0.trans (HB.out.mono B0.size)).setCell (p := ⟨w.heap.size, 0, none⟩) (Nat.le_refl _) _).setCell (p := ⟨w.heap.size, 1, none⟩) (Nat.le_refl _) _).setCell (p := ⟨w.heap.size, 2, none⟩) (Nat.le_refl _) _
/-- What Of returns. -/
theorem pOf_any (n : Int) (h0 : -9223372036854775808 ≤ n) (h1 : n ≤ 9223372036854775807) (w : World) (hP : Pow w) : Calls Tryz.prog 15 #[.int .i64 n] w fun e w' => e = .returned (.agg #[.bool (decide (n < 0)), .string (str (Dc.digs n.natAbs)), .int .i64 0]) ∧ Below w.heap.size w w' := by
  rcases (by omega : n < 0 ∨ 0 ≤ n) with hn | hn
  · obtain ⟨u, rfl⟩ : ∃ u : Nat, n = -(u : Int) := ⟨n.natAbs, by omega⟩
    rw [decide_eq_true hn, Int.natAbs_neg, Int.natAbs_natCast]
    exact pOf_neg u (by omega) (by omega) w hP
  · obtain ⟨u, rfl⟩ : ∃ u : Nat, n = u := ⟨n.toNat, by omega⟩
    rw [decide_eq_false (by omega), Int.natAbs_natCast]
    exact pOf_pos u h1 w hP
end Go.Proofs.YthmmjihldkjhhaaGreatDoor
namespace Go.Proofs.YthmmjihldkjhhaaGreatDoor
open Go Go.RowKit

set_option maxRecDepth 100000 in
set_option maxHeartbeats 16000000 in
theorem shown_true (w : World) (hG : Good w) : Calls Tryz.prog 8 #[] w fun e w' => e = .returned (.bool true) ∧ Below w.heap.size w w' := by
  have c0 : Hid (∀ w : World, Good w → Calls Tryz.prog 9 #[.string ⟨#[46]⟩] w fun e w' => e = .returned (.tuple #[.agg #[.bool false, .string ⟨#[]⟩, .int .i64 0], .int .i64 6]) ∧ Below w.heap.size w w') := Lib.hid (fun w => pread_is ⟨#[46]⟩ (by decide) ⟨false, ⟨#[]⟩, 0, 6⟩ (by kernel_rfl) w)
  have c1 : Hid (∀ w : World, Calls Tryz.prog 35 #[.string ⟨#[49]⟩] w fun e w' => e = .returned (.agg #[.bool false, .string ⟨#[49]⟩, .int .i64 0]) ∧ Below w.heap.size w w') := Lib.hid (fun w => lread_is ⟨#[49]⟩ (by decide) ⟨false, ⟨#[49]⟩, 0, 0⟩ (by kernel_rfl) w)
  have c2 : Hid (∀ w : World, Calls Tryz.prog 35 #[.string ⟨#[48]⟩] w fun e w' => e = .returned (.agg #[.bool false, .string ⟨#[48]⟩, .int .i64 0]) ∧ Below w.heap.size w w') := Lib.hid (fun w => lread_is ⟨#[48]⟩ (by decide) ⟨false, ⟨#[48]⟩, 0, 0⟩ (by kernel_rfl) w)
  have c3 : Hid (∀ w : World, Calls Tryz.prog 35 #[.string ⟨#[45, 49]⟩] w fun e w' => e = .returned (.agg #[.bool true, .string ⟨#[49]⟩, .int .i64 0]) ∧ Below w.heap.size w w') := Lib.hid (fun w => lread_is ⟨#[45, 49]⟩ (by decide) ⟨true, ⟨#[49]⟩, 0, 0⟩ (by kernel_rfl) w)
  have c4 : Hid (∀ w : World, Calls Tryz.prog 35 #[.string ⟨#[48, 46, 53]⟩] w fun e w' => e = .returned (.agg #[.bool false, .string ⟨#[53]⟩, .int .i64 1]) ∧ Below w.heap.size w w') := Lib.hid (fun w => lread_is ⟨#[48, 46, 53]⟩ (by decide) ⟨false, ⟨#[53]⟩, 1, 0⟩ (by kernel_rfl) w)
  have c5 : Hid (∀ w : World, Calls Tryz.prog 35 #[.string ⟨#[48, 46, 48, 48, 49]⟩] w fun e w' => e = .returned (.agg #[.bool false, .string ⟨#[49]⟩, .int .i64 3]) ∧ Below w.heap.size w w') := Lib.hid (fun w => lread_is ⟨#[48, 46, 48, 48, 49]⟩ (by decide) ⟨false, ⟨#[49]⟩, 3, 0⟩ (by kernel_rfl) w)
  have c6 : Hid (∀ w : World, Calls Tryz.prog 35 #[.string ⟨#[48, 46, 49]⟩] w fun e w' => e = .returned (.agg #[.bool false, .string ⟨#[49]⟩, .int .i64 1]) ∧ Below w.heap.size w w') := Lib.hid (fun w => lread_is ⟨#[48, 46, 49]⟩ (by decide) ⟨false, ⟨#[49]⟩, 1, 0⟩ (by kernel_rfl) w)
  have c7 : Hid (∀ w : World, Calls Tryz.prog 35 #[.string ⟨#[48, 46, 50]⟩] w fun e w' => e = .returned (.agg #[.bool false, .string ⟨#[50]⟩, .int .i64 1]) ∧ Below w.heap.size w w') := Lib.hid (fun w => lread_is ⟨#[48, 46, 50]⟩ (by decide) ⟨false, ⟨#[50]⟩, 1, 0⟩ (by kernel_rfl) w)
  have c8 : Hid (∀ w : World, Calls Tryz.prog 35 #[.string ⟨#[45, 49, 46, 53]⟩] w fun e w' => e = .returned (.agg #[.bool true, .string ⟨#[49, 53]⟩, .int .i64 1]) ∧ Below w.heap.size w w') := Lib.hid (fun w => lread_is ⟨#[45, 49, 46, 53]⟩ (by decide) ⟨true, ⟨#[49, 53]⟩, 1, 0⟩ (by kernel_rfl) w)
  have c9 : Hid (∀ w : World, Calls Tryz.prog 35 #[.string ⟨#[50]⟩] w fun e w' => e = .returned (.agg #[.bool false, .string ⟨#[50]⟩, .int .i64 0]) ∧ Below w.heap.size w w') := Lib.hid (fun w => lread_is ⟨#[50]⟩ (by decide) ⟨false, ⟨#[50]⟩, 0, 0⟩ (by kernel_rfl) w)
  have c10 : Hid (∀ w : World, Calls Tryz.prog 35 #[.string ⟨#[51]⟩] w fun e w' => e = .returned (.agg #[.bool false, .string ⟨#[51]⟩, .int .i64 0]) ∧ Below w.heap.size w w') := Lib.hid (fun w => lread_is ⟨#[51]⟩ (by decide) ⟨false, ⟨#[51]⟩, 0, 0⟩ (by kernel_rfl) w)
  have c11 : Hid (∀ w : World, Calls Tryz.prog 35 #[.string ⟨#[50, 46, 53]⟩] w fun e w' => e = .returned (.agg #[.bool false, .string ⟨#[50, 53]⟩, .int .i64 1]) ∧ Below w.heap.size w w') := Lib.hid (fun w => lread_is ⟨#[50, 46, 53]⟩ (by decide) ⟨false, ⟨#[50, 53]⟩, 1, 0⟩ (by kernel_rfl) w)
  have c12 : Hid (∀ w : World, Calls Tryz.prog 35 #[.string ⟨#[51, 46, 53]⟩] w fun e w' => e = .returned (.agg #[.bool false, .string ⟨#[51, 53]⟩, .int .i64 1]) ∧ Below w.heap.size w w') := Lib.hid (fun w => lread_is ⟨#[51, 46, 53]⟩ (by decide) ⟨false, ⟨#[51, 53]⟩, 1, 0⟩ (by kernel_rfl) w)
  have c13 : Hid (∀ w : World, Calls Tryz.prog 35 #[.string ⟨#[45, 49, 50]⟩] w fun e w' => e = .returned (.agg #[.bool true, .string ⟨#[49, 50]⟩, .int .i64 0]) ∧ Below w.heap.size w w') := Lib.hid (fun w => lread_is ⟨#[45, 49, 50]⟩ (by decide) ⟨true, ⟨#[49, 50]⟩, 0, 0⟩ (by kernel_rfl) w)
  have c14 : Hid (∀ w : World, Pow w → Calls Tryz.prog 17 #[.agg #[.bool false, .string ⟨#[49]⟩, .int .i64 0], .agg #[.bool false, .string ⟨#[48]⟩, .int .i64 0], .int .i64 2] w fun e w' => e = .returned (.tuple #[.agg #[.bool false, .string ⟨#[]⟩, .int .i64 0], .int .i64 2]) ∧ Below w.heap.size w w') := Lib.hid (fun w => pdiv_is false ⟨#[49]⟩ 0 false ⟨#[48]⟩ 0 2 (by decide) (by decide) ⟨false, ⟨#[]⟩, 0, 2⟩ (by kernel_rfl) w)
  have c15 : Hid (∀ w : World, Calls Tryz.prog 26 #[.agg #[.bool true, .string ⟨#[49]⟩, .int .i64 0], .agg #[.bool false, .string ⟨#[53]⟩, .int .i64 1]] w fun e w' => e = .returned (.tuple #[.int .i64 (-1), .int .i64 0]) ∧ Below w.heap.size w w') := Lib.hid (fun w => pcmp_is true ⟨#[49]⟩ 0 false ⟨#[53]⟩ 1 (by decide) (by decide) (-1) 0 (by kernel_rfl) w)
  have c16 : Hid (∀ w : World, Calls Tryz.prog 21 #[.agg #[.bool false, .string ⟨#[49]⟩, .int .i64 3]] w fun e w' => e = .returned (.tuple #[.int .i64 3, .int .i64 3, .int .i64 0]) ∧ Below w.heap.size w w') := Lib.hid (fun w => pdigits_is false ⟨#[49]⟩ 3 (by decide) 3 3 0 (by kernel_rfl) w)
  have c17 : Hid (∀ w : World, Good w → Calls Tryz.prog 9 #[.string ⟨#[43, 48, 48, 55, 46, 53, 48]⟩] w fun e w' => e = .returned (.tuple #[.agg #[.bool false, .string ⟨#[55, 53]⟩, .int .i64 1], .int .i64 0]) ∧ Below w.heap.size w w') := Lib.hid (fun w => pread_is ⟨#[43, 48, 48, 55, 46, 53, 48]⟩ (by decide) ⟨false, ⟨#[55, 53]⟩, 1, 0⟩ (by kernel_rfl) w)
  have c18 : Hid (∀ w : World, Calls Tryz.prog 36 #[.agg #[.bool false, .string ⟨#[55, 53]⟩, .int .i64 1], .int .i64 0] w fun e w' => e = .returned (.string ⟨#[55, 46, 53]⟩) ∧ Below w.heap.size w w') := Lib.hid (fun w => ltext_ok false ⟨#[55, 53]⟩ 1 (by decide) ⟨#[55, 46, 53]⟩ 0 (by kernel_rfl) w)
  have c19 : Hid (∀ w : World, Good w → Calls Tryz.prog 9 #[.string ⟨#[45, 46, 48]⟩] w fun e w' => e = .returned (.tuple #[.agg #[.bool false, .string ⟨#[48]⟩, .int .i64 0], .int .i64 0]) ∧ Below w.heap.size w w') := Lib.hid (fun w => pread_is ⟨#[45, 46, 48]⟩ (by decide) ⟨false, ⟨#[48]⟩, 0, 0⟩ (by kernel_rfl) w)
  have c20 : Hid (∀ w : World, Calls Tryz.prog 36 #[.agg #[.bool false, .string ⟨#[48]⟩, .int .i64 0], .int .i64 0] w fun e w' => e = .returned (.string ⟨#[48]⟩) ∧ Below w.heap.size w w') := Lib.hid (fun w => ltext_ok false ⟨#[48]⟩ 0 (by decide) ⟨#[48]⟩ 0 (by kernel_rfl) w)
  have c21 : Hid (∀ w : World, Pow w → Calls Tryz.prog 23 #[.agg #[.bool false, .string ⟨#[49]⟩, .int .i64 1], .agg #[.bool false, .string ⟨#[50]⟩, .int .i64 1]] w fun e w' => e = .returned (.tuple #[.agg #[.bool false, .string ⟨#[51]⟩, .int .i64 1], .int .i64 0]) ∧ Below w.heap.size w w') := Lib.hid (fun w => padd_is false ⟨#[49]⟩ 1 false ⟨#[50]⟩ 1 (by decide) (by decide) ⟨false, ⟨#[51]⟩, 1, 0⟩ (by kernel_rfl) w)
  have c22 : Hid (∀ w : World, Calls Tryz.prog 36 #[.agg #[.bool false, .string ⟨#[51]⟩, .int .i64 1], .int .i64 0] w fun e w' => e = .returned (.string ⟨#[48, 46, 51]⟩) ∧ Below w.heap.size w w') := Lib.hid (fun w => ltext_ok false ⟨#[51]⟩ 1 (by decide) ⟨#[48, 46, 51]⟩ 0 (by kernel_rfl) w)
  have c23 : Hid (∀ w : World, Pow w → Calls Tryz.prog 24 #[.agg #[.bool true, .string ⟨#[49, 53]⟩, .int .i64 1], .agg #[.bool false, .string ⟨#[50]⟩, .int .i64 1]] w fun e w' => e = .returned (.tuple #[.agg #[.bool true, .string ⟨#[51]⟩, .int .i64 1], .int .i64 0]) ∧ Below w.heap.size w w') := Lib.hid (fun w => pmul_is true ⟨#[49, 53]⟩ 1 false ⟨#[50]⟩ 1 (by decide) (by decide) ⟨true, ⟨#[51]⟩, 1, 0⟩ (by kernel_rfl) w)
  have c24 : Hid (∀ w : World, Calls Tryz.prog 36 #[.agg #[.bool true, .string ⟨#[51]⟩, .int .i64 1], .int .i64 0] w fun e w' => e = .returned (.string ⟨#[45, 48, 46, 51]⟩) ∧ Below w.heap.size w w') := Lib.hid (fun w => ltext_ok true ⟨#[51]⟩ 1 (by decide) ⟨#[45, 48, 46, 51]⟩ 0 (by kernel_rfl) w)
  have c25 : Hid (∀ w : World, Pow w → Calls Tryz.prog 17 #[.agg #[.bool false, .string ⟨#[50]⟩, .int .i64 0], .agg #[.bool false, .string ⟨#[51]⟩, .int .i64 0], .int .i64 4] w fun e w' => e = .returned (.tuple #[.agg #[.bool false, .string ⟨#[54, 54, 54, 54]⟩, .int .i64 4], .int .i64 0]) ∧ Below w.heap.size w w') := Lib.hid (fun w => pdiv_is false ⟨#[50]⟩ 0 false ⟨#[51]⟩ 0 4 (by decide) (by decide) ⟨false, ⟨#[54, 54, 54, 54]⟩, 4, 0⟩ (by kernel_rfl) w)
  have c26 : Hid (∀ w : World, Calls Tryz.prog 36 #[.agg #[.bool false, .string ⟨#[54, 54, 54, 54]⟩, .int .i64 4], .int .i64 0] w fun e w' => e = .returned (.string ⟨#[48, 46, 54, 54, 54, 54]⟩) ∧ Below w.heap.size w w') := Lib.hid (fun w => ltext_ok false ⟨#[54, 54, 54, 54]⟩ 4 (by decide) ⟨#[48, 46, 54, 54, 54, 54]⟩ 0 (by kernel_rfl) w)
  have c27 : Hid (∀ w : World, Pow w → Calls Tryz.prog 19 #[.agg #[.bool false, .string ⟨#[50, 53]⟩, .int .i64 1], .int .i64 0] w fun e w' => e = .returned (.tuple #[.agg #[.bool false, .string ⟨#[50]⟩, .int .i64 0], .int .i64 0]) ∧ Below w.heap.size w w') := Lib.hid (fun w => pround_is false ⟨#[50, 53]⟩ 1 0 (by decide) ⟨false, ⟨#[50]⟩, 0, 0⟩ (by kernel_rfl) w)
  have c28 : Hid (∀ w : World, Calls Tryz.prog 36 #[.agg #[.bool false, .string ⟨#[50]⟩, .int .i64 0], .int .i64 0] w fun e w' => e = .returned (.string ⟨#[50]⟩) ∧ Below w.heap.size w w') := Lib.hid (fun w => ltext_ok false ⟨#[50]⟩ 0 (by decide) ⟨#[50]⟩ 0 (by kernel_rfl) w)
  have c29 : Hid (∀ w : World, Pow w → Calls Tryz.prog 19 #[.agg #[.bool false, .string ⟨#[51, 53]⟩, .int .i64 1], .int .i64 0] w fun e w' => e = .returned (.tuple #[.agg #[.bool false, .string ⟨#[52]⟩, .int .i64 0], .int .i64 0]) ∧ Below w.heap.size w w') := Lib.hid (fun w => pround_is false ⟨#[51, 53]⟩ 1 0 (by decide) ⟨false, ⟨#[52]⟩, 0, 0⟩ (by kernel_rfl) w)
  have c30 : Hid (∀ w : World, Calls Tryz.prog 36 #[.agg #[.bool false, .string ⟨#[52]⟩, .int .i64 0], .int .i64 0] w fun e w' => e = .returned (.string ⟨#[52]⟩) ∧ Below w.heap.size w w') := Lib.hid (fun w => ltext_ok false ⟨#[52]⟩ 0 (by decide) ⟨#[52]⟩ 0 (by kernel_rfl) w)
  have c31 : Hid (∀ w : World, Pow w → Calls Tryz.prog 15 #[.int .i64 (-12)] w fun e w' => e = .returned (.agg #[.bool true, .string ⟨#[49, 50]⟩, .int .i64 0]) ∧ Below w.heap.size w w') := Lib.hid (fun w hP => (pOf_any (-12) (by decide) (by decide) w hP).mono (fun e w1 h => ⟨h.1.trans (by kernel_rfl), h.2⟩))
  have HG := Lib.hid hG
  have hB := Below.refl w.heap.size w
  clear hG
  go_enter Tryz.func8, Tryz.ntmps8
  go_wp2_with (first
    | (go_at_call 9; with_reducible refine (c0.out _ (HG.out.next hB)).mono ?_; rintro e W3 ⟨rfl, hb⟩; replace hB := below_step hB hb; clear hb)
    | (go_at_call 35; with_reducible refine (c1.out _).mono ?_; rintro e W3 ⟨rfl, hb⟩; replace hB := below_step hB hb; clear hb)
    | (go_at_call 35; with_reducible refine (c2.out _).mono ?_; rintro e W3 ⟨rfl, hb⟩; replace hB := below_step hB hb; clear hb)
    | (go_at_call 35; with_reducible refine (c3.out _).mono ?_; rintro e W3 ⟨rfl, hb⟩; replace hB := below_step hB hb; clear hb)
    | (go_at_call 35; with_reducible refine (c4.out _).mono ?_; rintro e W3 ⟨rfl, hb⟩; replace hB := below_step hB hb; clear hb)
    | (go_at_call 35; with_reducible refine (c5.out _).mono ?_; rintro e W3 ⟨rfl, hb⟩; replace hB := below_step hB hb; clear hb)
    | (go_at_call 35; with_reducible refine (c6.out _).mono ?_; rintro e W3 ⟨rfl, hb⟩; replace hB := below_step hB hb; clear hb)
    | (go_at_call 35; with_reducible refine (c7.out _).mono ?_; rintro e W3 ⟨rfl, hb⟩; replace hB := below_step hB hb; clear hb)
    | (go_at_call 35; with_reducible refine (c8.out _).mono ?_; rintro e W3 ⟨rfl, hb⟩; replace hB := below_step hB hb; clear hb)
    | (go_at_call 35; with_reducible refine (c9.out _).mono ?_; rintro e W3 ⟨rfl, hb⟩; replace hB := below_step hB hb; clear hb)
    | (go_at_call 35; with_reducible refine (c10.out _).mono ?_; rintro e W3 ⟨rfl, hb⟩; replace hB := below_step hB hb; clear hb)
    | (go_at_call 35; with_reducible refine (c11.out _).mono ?_; rintro e W3 ⟨rfl, hb⟩; replace hB := below_step hB hb; clear hb)
    | (go_at_call 35; with_reducible refine (c12.out _).mono ?_; rintro e W3 ⟨rfl, hb⟩; replace hB := below_step hB hb; clear hb)
    | (go_at_call 35; with_reducible refine (c13.out _).mono ?_; rintro e W3 ⟨rfl, hb⟩; replace hB := below_step hB hb; clear hb)
    | (go_at_call 17; with_reducible refine (c14.out _ (HG.out.next hB).pow).mono ?_; rintro e W3 ⟨rfl, hb⟩; replace hB := below_step hB hb; clear hb)
    | (go_at_call 26; with_reducible refine (c15.out _).mono ?_; rintro e W3 ⟨rfl, hb⟩; replace hB := below_step hB hb; clear hb)
    | (go_at_call 21; with_reducible refine (c16.out _).mono ?_; rintro e W3 ⟨rfl, hb⟩; replace hB := below_step hB hb; clear hb)
    | (go_at_call 9; with_reducible refine (c17.out _ (HG.out.next hB)).mono ?_; rintro e W3 ⟨rfl, hb⟩; replace hB := below_step hB hb; clear hb)
    | (go_at_call 36; with_reducible refine (c18.out _).mono ?_; rintro e W3 ⟨rfl, hb⟩; replace hB := below_step hB hb; clear hb)
    | (go_at_call 9; with_reducible refine (c19.out _ (HG.out.next hB)).mono ?_; rintro e W3 ⟨rfl, hb⟩; replace hB := below_step hB hb; clear hb)
    | (go_at_call 36; with_reducible refine (c20.out _).mono ?_; rintro e W3 ⟨rfl, hb⟩; replace hB := below_step hB hb; clear hb)
    | (go_at_call 23; with_reducible refine (c21.out _ (HG.out.next hB).pow).mono ?_; rintro e W3 ⟨rfl, hb⟩; replace hB := below_step hB hb; clear hb)
    | (go_at_call 36; with_reducible refine (c22.out _).mono ?_; rintro e W3 ⟨rfl, hb⟩; replace hB := below_step hB hb; clear hb)
    | (go_at_call 24; with_reducible refine (c23.out _ (HG.out.next hB).pow).mono ?_; rintro e W3 ⟨rfl, hb⟩; replace hB := below_step hB hb; clear hb)
    | (go_at_call 36; with_reducible refine (c24.out _).mono ?_; rintro e W3 ⟨rfl, hb⟩; replace hB := below_step hB hb; clear hb)
    | (go_at_call 17; with_reducible refine (c25.out _ (HG.out.next hB).pow).mono ?_; rintro e W3 ⟨rfl, hb⟩; replace hB := below_step hB hb; clear hb)
    | (go_at_call 36; with_reducible refine (c26.out _).mono ?_; rintro e W3 ⟨rfl, hb⟩; replace hB := below_step hB hb; clear hb)
    | (go_at_call 19; with_reducible refine (c27.out _ (HG.out.next hB).pow).mono ?_; rintro e W3 ⟨rfl, hb⟩; replace hB := below_step hB hb; clear hb)
    | (go_at_call 36; with_reducible refine (c28.out _).mono ?_; rintro e W3 ⟨rfl, hb⟩; replace hB := below_step hB hb; clear hb)
    | (go_at_call 19; with_reducible refine (c29.out _ (HG.out.next hB).pow).mono ?_; rintro e W3 ⟨rfl, hb⟩; replace hB := below_step hB hb; clear hb)
    | (go_at_call 36; with_reducible refine (c30.out _).mono ?_; rintro e W3 ⟨rfl, hb⟩; replace hB := below_step hB hb; clear hb)
    | (go_at_call 15; with_reducible refine (c31.out _ (HG.out.next hB).pow).mono ?_; rintro e W3 ⟨rfl, hb⟩; replace hB := below_step hB hb; clear hb)
    | (refine wl_allocA rfl zero_dec rfl (fun W4 b hb => ?_); have l := hB.size; replace hB := below_step hB hb; clear hb)
    | (refine wl_storeA b rfl _ _ rfl rfl rfl (by kernel_rfl) rfl rfl rfl (fun W5 b5 hg => ?_); replace hB := below_far hB hB.size (by omega) hg; clear hg b b5))
  go_ret
  go_light
  exact ⟨rfl, hB⟩
end Go.Proofs.YthmmjihldkjhhaaGreatDoor
