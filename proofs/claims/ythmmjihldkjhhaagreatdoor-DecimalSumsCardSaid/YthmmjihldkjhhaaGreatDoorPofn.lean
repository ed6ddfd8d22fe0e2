/-
  What Of returns.
-/
import Derived.Test.YthmmjihldkjhhaaGreatDoorPdigits
import Derived.Test.YthmmjihldkjhhaaGreatDoorPchecked
namespace Go.Proofs.YthmmjihldkjhhaaGreatDoor
open Go Go.RowKit

theorem fint_any (n : Int) (h0 : -9223372036854775808 ≤ n) (h1 : n ≤ 9223372036854775807) (w : World) (hP : Pow w) : Calls Tryz.prog 47 #[.int .i64 n, .int .i64 10] w fun e w' => (∃ t : ByteArray, e = .returned (.string t) ∧ t.data.toList = Lib.itoa n) ∧ Below w.heap.size w w' := by
  refine (Tryz.strconv_FormatInt_10 n h0 h1 w hP).mono ?_
  rintro e w' ⟨rfl, k, os, rfl⟩
  exact ⟨⟨_, rfl, rfl⟩, Lib.below_grow _ _ (Nat.le_refl _) _ _⟩
theorem tpre_any (s : ByteArray) (l : List UInt8) (h : Lib.trimPrefix s.data.toList [45] = l) (w : World) : Calls Tryz.prog 48 #[.string s, .string ⟨#[45]⟩] w fun e w' => (∃ t : ByteArray, e = .returned (.string t) ∧ t.data.toList = l) ∧ w = w' :=
  (Tryz.strings_TrimPrefix s ⟨#[45]⟩ w).mono fun _ _ ⟨he, hw⟩ => ⟨⟨_, he, h⟩, hw.symm⟩
theorem dec_head (u : Nat) : ∀ r, Lib.decDigits u ≠ 45 :: r := fun r h => by
  have h1 := decDigits_digs u
  rw [h] at h1
  have := Dc.digs_dig u
  rw [← h1] at this
  simp [Dc.dig] at this
theorem tpre_same (s : ByteArray) (h : ∀ r, s.data.toList ≠ 45 :: r) (w : World) : Calls Tryz.prog 48 #[.string s, .string ⟨#[45]⟩] w fun e w' => e = .returned (.string s) ∧ w = w' := by
  refine (Tryz.strings_TrimPrefix s ⟨#[45]⟩ w).mono ?_
  rintro e w' ⟨rfl, hw⟩
  refine ⟨?_, hw.symm⟩
  have hp : Lib.hasPrefix s.data.toList [45] = false := by
    unfold Lib.hasPrefix
    cases hl : s.data.toList with
    | nil => rfl
    | cons c r =>
      have hc : (45 == c) = false := beq_eq_false_iff_ne.2 (fun e => h r (by rw [hl, e]))
      simp [List.isPrefixOf, hc]
  show Ending.returned (.string ⟨(Lib.trimPrefix s.data.toList [45]).toArray⟩) = _
  unfold Lib.trimPrefix
  rw [hp]; rfl
theorem cell3 {w : World} {g : Nat} {cs : Array Value} {t : TypeId} (h : w.heap[g]? = some (.cells cs t)) {j : Nat} {v : Value} (hv : cs[j]? = some v) : w.cell? ⟨g, j, none⟩ = some v := by simp [World.cell?, h, hv]
theorem open3 {w : World} {g : Nat} {cs : Array Value} {t : TypeId} (h : w.heap[g]? = some (.cells cs t)) (j : Nat) : w.frozen? ⟨g, j, none⟩ = false := by simp [World.frozen?, h]
theorem blk_keep {w w1 : World} {o : Obj} (hb : Below (w.alloc o).heap.size (w.alloc o) w1) : w1.heap[w.heap.size]? = some o := (hb.block _ (by simp)).trans (heap_alloc_last w o)
set_option maxRecDepth 100000 in
set_option maxHeartbeats 1000000 in
theorem pOf_pos (u : Nat) (h1 : (u : Int) ≤ 9223372036854775807) (w : World) (hP : Pow w) : Calls Tryz.prog 15 #[.int .i64 (u : Int)] w fun e w' => e = .returned (.agg #[.bool false, .string (str (Dc.digs u)), .int .i64 0]) ∧ Below w.heap.size w w' := by
  have C : Hid (∀ w, Pow w → _) := Lib.hid (fint_any (u : Int) (by omega) h1)
  have HP : Hid _ := Lib.hid hP
  clear hP
  go_enter Tryz.func15, Tryz.ntmps15
  go_wp2_with (first
    | (go_at_call 47; refine (C.out _ (HP.out.keep ((Below.refl _ w).alloc (Nat.le_refl _) _))).mono ?_; rintro e w1 ⟨⟨t, rfl, ht⟩, hb⟩; have HT : Hid _ := Lib.hid ht; have HB : Hid _ := Lib.hid hb; have k1 := blk_keep hb; have e0 := cell3 k1 (j := 0) rfl; have e1 := cell3 k1 (j := 1) rfl; have e2 := cell3 k1 (j := 2) rfl; have f0 := open3 k1 0; have f1 := open3 k1 1; have f2 := open3 k1 2; clear k1 ht hb; have HQ : Hid (bts t = Dc.digs u) := Lib.hid (by show t.data.toList.map UInt8.toNat = _; rw [HT.out, Lib.itoa_nonneg, decDigits_digs]))
    | (go_at_call 48; refine (tpre_same t (by rw [HT.out, Lib.itoa_nonneg]; exact dec_head u) _).mono ?_; rintro e w2 ⟨rfl, rfl⟩))
  refine bodyPost_ret (v := .agg #[.bool false, .string t, .int .i64 0]) (by simp [results, Tryz.results15, go_sem, e0, e1, e2]) rfl ⟨by rw [← HQ.out, str_bts], ?_⟩
  have B0 : Below w.heap.size w (w.alloc (.cells #[.bool false, .string ⟨#[]⟩, .int .i64 0] 23)) := (Below.refl _ w).alloc (Nat.le_refl _) _
  exact (((B0.trans (HB.out.mono B0.size)).setCell (p := ⟨w.heap.size, 0, none⟩) (Nat.le_refl _) _).setCell (p := ⟨w.heap.size, 1, none⟩) (Nat.le_refl _) _).setCell (p := ⟨w.heap.size, 2, none⟩) (Nat.le_refl _) _
theorem tpre_cut (s : ByteArray) (l : List UInt8) (h : s.data.toList = 45 :: l) (w : World) : Calls Tryz.prog 48 #[.string s, .string ⟨#[45]⟩] w fun e w' => (∃ t : ByteArray, e = .returned (.string t) ∧ t.data.toList = l) ∧ w = w' := by
  refine tpre_any s l ?_ w
  unfold Lib.trimPrefix Lib.hasPrefix
  rw [h]
  simp [List.isPrefixOf]
set_option maxRecDepth 100000 in
set_option maxHeartbeats 1000000 in
theorem pOf_neg (u : Nat) (hu : 1 ≤ u) (h1 : (u : Int) ≤ 9223372036854775808) (w : World) (hP : Pow w) : Calls Tryz.prog 15 #[.int .i64 (-(u : Int))] w fun e w' => e = .returned (.agg #[.bool true, .string (str (Dc.digs u)), .int .i64 0]) ∧ Below w.heap.size w w' := by
  have C : Hid (∀ w, Pow w → _) := Lib.hid (fint_any (-(u : Int)) (by omega) (by omega))
  have HP : Hid _ := Lib.hid hP
  clear hP
  go_enter Tryz.func15, Tryz.ntmps15
  go_wp2_with (first
    | (go_at_call 47; refine (C.out _ (HP.out.keep ((Below.refl _ w).alloc (Nat.le_refl _) _))).mono ?_; rintro e w1 ⟨⟨t, rfl, ht⟩, hb⟩; have HT : Hid _ := Lib.hid ht; have HB : Hid _ := Lib.hid hb; have k1 := blk_keep hb; have e0 := cell3 k1 (j := 0) rfl; have e1 := cell3 k1 (j := 1) rfl; have e2 := cell3 k1 (j := 2) rfl; have f0 := open3 k1 0; have f1 := open3 k1 1; have f2 := open3 k1 2; clear k1 ht hb; have hTl : Hid (t.data.toList = 45 :: Lib.decDigits u) := Lib.hid (by rw [HT.out, Lib.itoa_neg u hu]))
    | (go_at_call 48; refine (tpre_cut t _ hTl.out _).mono ?_; rintro e w2 ⟨⟨t2, rfl, ht2⟩, rfl⟩; have HQ : Hid (bts t2 = Dc.digs u) := Lib.hid (by show t2.data.toList.map UInt8.toNat = _; rw [ht2, decDigits_digs]); have qd : (t2.toList == t.toList) = false := (by rw [toList_beq]; exact decide_eq_false (fun h => by have h2 := congrArg List.length h; have h3 := hTl.out; simp [bts, ht2, h3] at h2)); clear ht2))
  refine bodyPost_ret (v := .agg #[.bool true, .string t2, .int .i64 0]) (by simp [results, Tryz.results15, go_sem, e0, e1, e2]) rfl ⟨by rw [← HQ.out, str_bts], ?_⟩
  have B0 : Below w.heap.size w (w.alloc (.cells #[.bool false, .string ⟨#[]⟩, .int .i64 0] 23)) := (Below.refl _ w).alloc (Nat.le_refl _) _
  exact (((B0.trans (HB.out.mono B0.size)).setCell (p := ⟨w.heap.size, 0, none⟩) (Nat.le_refl _) _).setCell (p := ⟨w.heap.size, 1, none⟩) (Nat.le_refl _) _).setCell (p := ⟨w.heap.size, 2, none⟩) (Nat.le_refl _) _
/-- What Of returns. -/
theorem pOf_any (n : Int) (h0 : -9223372036854775808 ≤ n) (h1 : n ≤ 9223372036854775807) (w : World) (hP : Pow w) : Calls Tryz.prog 15 #[.int .i64 n] w fun e w' => e = .returned (.agg #[.bool (decide (n < 0)), .string (str (Dc.digs n.natAbs)), .int .i64 0]) ∧ Below w.heap.size w w' := by
  rcases (by omega : n < 0 ∨ 0 ≤ n) with hn | hn
  · obtain ⟨u, rfl⟩ : ∃ u : Nat, n = -(u : Int) := ⟨n.natAbs, by omega⟩
    rw [decide_eq_true hn, Int.natAbs_neg, Int.natAbs_natCast]
    exact pOf_neg u (by omega) (by omega) w hP
  · obtain ⟨u, rfl⟩ : ∃ u : Nat, n = u := ⟨n.toNat, by omega⟩
    rw [decide_eq_false (by omega), Int.natAbs_natCast]
    exact pOf_pos u h1 w hP
end Go.Proofs.YthmmjihldkjhhaaGreatDoor
