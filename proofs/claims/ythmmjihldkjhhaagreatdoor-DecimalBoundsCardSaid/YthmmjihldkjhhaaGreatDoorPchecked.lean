/-
  What 'checked' returns, of one and of two decimals.
-/
import Derived.Test.YthmmjihldkjhhaaGreatDoorPcheck
namespace Go.Proofs.YthmmjihldkjhhaaGreatDoor
open Go Go.RowKit

theorem pcheck_r (n : Bool) (s : ByteArray) (S : Int) (hs : s.size ≤ 1000000) (r : Int) (hr : ckI n s S = r) (w : World) : Calls Tryz.prog 13 #[.agg #[.bool n, .string s, .int .i64 S]] w fun e w' => e = .returned (.int .i64 r) ∧ Below w.heap.size w w' := by
  rw [← hr]; exact pcheck_any n s S (by omega) w
theorem cell_below {B : Nat} {w w' : World} (hb : Below B w w') {a : Addr} (ha : a.block < B) : w'.cell? a = w.cell? a := by
  unfold World.cell?; rw [hb.block _ ha]
set_option maxRecDepth 100000 in
set_option maxHeartbeats 1000000 in
theorem pchecked1_yes (n : Bool) (s : ByteArray) (S : Int) (hs : s.size ≤ 1000000) (hk : okB n s S = true) (g : Nat) (w : World) (c0 : w.cell? ⟨g, 0, none⟩ = some (.bool n)) (c1 : w.cell? ⟨g, 1, none⟩ = some (.string s)) (c2 : w.cell? ⟨g, 2, none⟩ = some (.int .i64 S)) : Calls Tryz.prog 43 #[.slice (some ⟨g, 0, none⟩) 1 1] w fun e w' => e = .returned (.bool true) ∧ Below w.heap.size w w' := by
  have C : Hid _ := Lib.hid (pcheck_r n s S hs 0 (ck_yes hk))
  clear hk
  go_enter Tryz.func43, Tryz.ntmps43
  go_wp2
  refine wp_loop_rounds 2 ?_
  rw [rounds_succ]
  go_wp2_with (go_at_call 13; refine (C.out _).mono ?_; rintro e w1 ⟨rfl, hHB⟩; have HB : Hid _ := Lib.hid hHB; clear hHB)
  rw [rounds_succ]
  go_wp2
  go_ret
  exact ⟨rfl, ((Below.refl _ w).alloc (Nat.le_refl _) _).trans (HB.out.mono (by simp))⟩
set_option maxRecDepth 100000 in
set_option maxHeartbeats 1000000 in
theorem pchecked1_no (n : Bool) (s : ByteArray) (S : Int) (hs : s.size ≤ 1000000) (hk : okB n s S = false) (g : Nat) (w : World) (c0 : w.cell? ⟨g, 0, none⟩ = some (.bool n)) (c1 : w.cell? ⟨g, 1, none⟩ = some (.string s)) (c2 : w.cell? ⟨g, 2, none⟩ = some (.int .i64 S)) : Calls Tryz.prog 43 #[.slice (some ⟨g, 0, none⟩) 1 1] w fun e w' => e = .returned (.bool false) ∧ Below w.heap.size w w' := by
  have C : Hid _ := Lib.hid (pcheck_r n s S hs 2 (ck_no hk))
  clear hk
  go_enter Tryz.func43, Tryz.ntmps43
  go_wp2
  refine wp_loop_rounds 1 ?_
  rw [rounds_succ]
  go_wp2_with (go_at_call 13; refine (C.out _).mono ?_; rintro e w1 ⟨rfl, hHB⟩; have HB : Hid _ := Lib.hid hHB; clear hHB)
  go_ret
  exact ⟨rfl, ((Below.refl _ w).alloc (Nat.le_refl _) _).trans (HB.out.mono (by simp))⟩
set_option maxRecDepth 100000 in
set_option maxHeartbeats 1000000 in
theorem pchecked2_no (n : Bool) (s : ByteArray) (S : Int) (hs : s.size ≤ 1000000) (n2 : Bool) (s2 : ByteArray) (S2 : Int) (hk : okB n s S = false) (g : Nat) (w : World) (c0 : w.cell? ⟨g, 0, none⟩ = some (.bool n)) (c1 : w.cell? ⟨g, 1, none⟩ = some (.string s)) (c2 : w.cell? ⟨g, 2, none⟩ = some (.int .i64 S)) (_c3 : w.cell? ⟨g, 3, none⟩ = some (.bool n2)) (_c4 : w.cell? ⟨g, 4, none⟩ = some (.string s2)) (_c5 : w.cell? ⟨g, 5, none⟩ = some (.int .i64 S2)) : Calls Tryz.prog 43 #[.slice (some ⟨g, 0, none⟩) 2 2] w fun e w' => e = .returned (.bool false) ∧ Below w.heap.size w w' := by
  have C : Hid _ := Lib.hid (pcheck_r n s S hs 2 (ck_no hk))
  clear hk
  go_enter Tryz.func43, Tryz.ntmps43
  go_wp2
  refine wp_loop_rounds 1 ?_
  rw [rounds_succ]
  go_wp2_with (go_at_call 13; refine (C.out _).mono ?_; rintro e w1 ⟨rfl, hHB⟩; have HB : Hid _ := Lib.hid hHB; clear hHB)
  go_ret
  exact ⟨rfl, ((Below.refl _ w).alloc (Nat.le_refl _) _).trans (HB.out.mono (by simp))⟩
set_option maxRecDepth 100000 in
set_option maxHeartbeats 1000000 in
theorem pchecked2_yn (n : Bool) (s : ByteArray) (S : Int) (hs : s.size ≤ 1000000) (n2 : Bool) (s2 : ByteArray) (S2 : Int) (hs2 : s2.size ≤ 1000000) (hk : okB n s S = true) (hk2 : okB n2 s2 S2 = false)  (g : Nat) (w : World) (c0 : w.cell? ⟨g, 0, none⟩ = some (.bool n)) (c1 : w.cell? ⟨g, 1, none⟩ = some (.string s)) (c2 : w.cell? ⟨g, 2, none⟩ = some (.int .i64 S)) (c3 : w.cell? ⟨g, 3, none⟩ = some (.bool n2)) (c4 : w.cell? ⟨g, 4, none⟩ = some (.string s2)) (c5 : w.cell? ⟨g, 5, none⟩ = some (.int .i64 S2)) : Calls Tryz.prog 43 #[.slice (some ⟨g, 0, none⟩) 2 2] w fun e w' => e = .returned (.bool false) ∧ Below w.heap.size w w' := by
  have C : Hid _ := Lib.hid (pcheck_r n s S hs 0 (ck_yes hk))
  have D : Hid _ := Lib.hid (pcheck_r n2 s2 S2 hs2 2 (ck_no hk2))
  clear hk hk2
  go_enter Tryz.func43, Tryz.ntmps43
  go_wp2
  have gl : g < w.heap.size := World.block_lt_of_cell? w _ c0
  refine wp_loop_rounds 2 ?_
  rw [rounds_succ]
  go_wp2_with (go_at_call 13; refine (C.out _).mono ?_; rintro e w1 ⟨rfl, hHB⟩; have HB : Hid _ := Lib.hid hHB; have d3 := (cell_below hHB (by simp; omega)).trans ((World.cell?_alloc_lt _ _ _ gl).trans c3); have d4 := (cell_below hHB (by simp; omega)).trans ((World.cell?_alloc_lt _ _ _ gl).trans c4); have d5 := (cell_below hHB (by simp; omega)).trans ((World.cell?_alloc_lt _ _ _ gl).trans c5); clear hHB)
  rw [rounds_succ]
  go_wp2_with (go_at_call 13; refine (D.out _).mono ?_; rintro e w2 ⟨rfl, hHB2⟩; have HB2 : Hid _ := Lib.hid hHB2; clear hHB2)
  go_ret
  have B1 := ((Below.refl _ w).alloc (Nat.le_refl _) _).trans (HB.out.mono (by simp))
  exact ⟨rfl, (B1.alloc B1.size _).trans (HB2.out.mono (B1.alloc B1.size _).size)⟩
set_option maxRecDepth 100000 in
set_option maxHeartbeats 1000000 in
theorem pchecked2_yes (n : Bool) (s : ByteArray) (S : Int) (hs : s.size ≤ 1000000) (n2 : Bool) (s2 : ByteArray) (S2 : Int) (hs2 : s2.size ≤ 1000000) (hk : okB n s S = true) (hk2 : okB n2 s2 S2 = true)  (g : Nat) (w : World) (c0 : w.cell? ⟨g, 0, none⟩ = some (.bool n)) (c1 : w.cell? ⟨g, 1, none⟩ = some (.string s)) (c2 : w.cell? ⟨g, 2, none⟩ = some (.int .i64 S)) (c3 : w.cell? ⟨g, 3, none⟩ = some (.bool n2)) (c4 : w.cell? ⟨g, 4, none⟩ = some (.string s2)) (c5 : w.cell? ⟨g, 5, none⟩ = some (.int .i64 S2)) : Calls Tryz.prog 43 #[.slice (some ⟨g, 0, none⟩) 2 2] w fun e w' => e = .returned (.bool true) ∧ Below w.heap.size w w' := by
  have C : Hid _ := Lib.hid (pcheck_r n s S hs 0 (ck_yes hk))
  have D : Hid _ := Lib.hid (pcheck_r n2 s2 S2 hs2 0 (ck_yes hk2))
  clear hk hk2
  go_enter Tryz.func43, Tryz.ntmps43
  go_wp2
  have gl : g < w.heap.size := World.block_lt_of_cell? w _ c0
  refine wp_loop_rounds 3 ?_
  rw [rounds_succ]
  go_wp2_with (go_at_call 13; refine (C.out _).mono ?_; rintro e w1 ⟨rfl, hHB⟩; have HB : Hid _ := Lib.hid hHB; have d3 := (cell_below hHB (by simp; omega)).trans ((World.cell?_alloc_lt _ _ _ gl).trans c3); have d4 := (cell_below hHB (by simp; omega)).trans ((World.cell?_alloc_lt _ _ _ gl).trans c4); have d5 := (cell_below hHB (by simp; omega)).trans ((World.cell?_alloc_lt _ _ _ gl).trans c5); clear hHB)
  rw [rounds_succ]
  go_wp2_with (go_at_call 13; refine (D.out _).mono ?_; rintro e w2 ⟨rfl, hHB2⟩; have HB2 : Hid _ := Lib.hid hHB2; clear hHB2)
  rw [rounds_succ]
  go_wp2
  go_ret
  have B1 := ((Below.refl _ w).alloc (Nat.le_refl _) _).trans (HB.out.mono (by simp))
  exact ⟨rfl, (B1.alloc B1.size _).trans (HB2.out.mono (B1.alloc B1.size _).size)⟩
end Go.Proofs.YthmmjihldkjhhaaGreatDoor
