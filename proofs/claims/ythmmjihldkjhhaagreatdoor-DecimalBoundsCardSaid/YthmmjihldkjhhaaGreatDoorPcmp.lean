/-
  Numbers of 24 elements: what 'cmp' returns.
-/
import Derived.Test.YthmmjihldkjhhaaGreatDoorRcheck
import Derived.Deep.WholeRow
namespace Go.Proofs.YthmmjihldkjhhaaGreatDoor
open Go Go.RowKit

/-- The elements of a number. -/
def numV (l : List Nat) : Array Value := (l.map fun n : Nat => Value.int .u32 (n : Int)).toArray
theorem numV_size (l : List Nat) : (numV l).size = l.length := by simp [numV]
/-- A number. -/
structure Num (l : List Nat) : Prop where
  len : l.length = 24
  low : ∀ d ∈ l, d < 1000000000
/-- A number that lies in a block. -/
structure Row24 (W : World) (g : Nat) (l : List Nat) : Prop where
  row : W.heap[g]? = some (.cells (numV l) 61)
  len : l.length = 24
theorem Row24.lt {W : World} {g : Nat} {l : List Nat} (h : Row24 W g l) : g < W.heap.size := (Array.getElem?_eq_some_iff.1 h.row).1
theorem Row24.cell {W : World} {g : Nat} {l : List Nat} (h : Row24 W g l) {j : Nat} (hj : j < 24) : W.cell? ⟨g, j, none⟩ = some (.int .u32 (l.getD j 0 : Nat)) := by
  have hj' : j < l.length := by rw [h.len]; exact hj
  have e : (numV l)[j]? = some (Value.int .u32 (l.getD j 0 : Nat)) := by
    simp [numV, hj', List.getD_eq_getElem?_getD]
  simp [World.cell?, h.row, e]
theorem Row24.open {W : World} {g : Nat} {l : List Nat} (h : Row24 W g l) {j : Nat} : W.frozen? ⟨g, j, none⟩ = false := by
  simp [World.frozen?, h.row]
theorem Row24.keep {W W' : World} {g : Nat} {l : List Nat} (h : Row24 W g l) (hb : Below W.heap.size W W') : Row24 W' g l :=
  ⟨(hb.block g h.lt).trans h.row, h.len⟩
theorem Row24.drew {W : World} {g : Nat} {l : List Nat} (h : Row24 W g l) (n : Nat) : Row24 (W.drewN n) g l := h.keep (below_drewN (Below.refl _ W) n)
theorem Row24.put {W : World} {g : Nat} {l : List Nat} (h : Row24 W g l) (j x : Nat) : Row24 (W.setCell ⟨g, j, none⟩ (.int .u32 (x : Int))) g (l.set j x) := by
  obtain ⟨hlt, hk⟩ := Array.getElem?_eq_some_iff.1 h.row
  refine ⟨?_, by rw [List.length_set]; exact h.len⟩
  show (W.heap.modify g _)[g]? = _
  rw [Array.getElem?_eq_getElem (by rw [Array.size_modify]; exact hlt), Array.getElem_modify_self, hk]
  simp [numV, List.map_set]
theorem Row24.apart {W : World} {g b : Nat} {l : List Nat} (h : Row24 W g l) (hb : b ≠ g) (j : Nat) (v : Value) : Row24 (W.setCell ⟨b, j, none⟩ v) g l := by
  refine ⟨?_, h.len⟩
  show (W.heap.modify b _)[g]? = _
  rw [Array.getElem?_modify, if_neg hb]; exact h.row
theorem Row24.new (w : World) (l : List Nat) (h : l.length = 24) : Row24 (w.alloc (.cells (numV l) 61)) w.heap.size l := ⟨heap_alloc_last w _, h⟩
theorem Row24.old {w : World} {g : Nat} {l : List Nat} (h : Row24 w g l) (o : Obj) : Row24 (w.alloc o) g l := h.keep ((Below.refl _ w).alloc (Nat.le_refl _) _)
theorem Num.zeros : Num (List.replicate 24 0) := ⟨by simp, fun d hd => by rw [(List.mem_replicate.1 hd).2]; decide⟩
theorem Num.at {l : List Nat} (h : Num l) (j : Nat) : l.getD j 0 < 1000000000 := Dc.getD_lt h.low j

/-- How two numbers compare. -/
def cmpI (x y : Nat) : Int := if x < y then -1 else if y < x then 1 else 0
theorem cmp_lt {x y : Nat} (h : x < y) : -1 = cmpI x y := by rw [cmpI, if_pos h]
theorem cmp_gt {x y : Nat} (h : y < x) : 1 = cmpI x y := by rw [cmpI, if_neg (by omega), if_pos h]
theorem cmp_eq {x y : Nat} (h : x = y) : 0 = cmpI x y := by rw [cmpI, if_neg (by omega), if_neg (by omega)]
theorem ret_i64 {a b : Int} (h : a = b) : Ending.returned (.int .i64 a) = .returned (.int .i64 b) := by rw [h]

set_option maxRecDepth 100000 in
set_option maxHeartbeats 2000000 in
theorem pcmp_any (a b : List Nat) (ha : Num a) (hb : Num b) (w : World) : Calls Tryz.prog 56 #[.agg (numV a), .agg (numV b)] w fun e w' => e = .returned (.int .i64 (cmpI (Dc.valB a) (Dc.valB b))) ∧ Below w.heap.size w w' := by
  have HA : Hid _ := Lib.hid ha
  have HB : Hid _ := Lib.hid hb
  have r1 : Row24 ((w.alloc (.cells (numV a) 61)).alloc (.cells (numV b) 61)) w.heap.size a := (Row24.new w a ha.len).old _
  have r2 : Row24 ((w.alloc (.cells (numV a) 61)).alloc (.cells (numV b) 61)) (w.heap.size + 1) b := by
    have := Row24.new (w.alloc (.cells (numV a) 61)) b hb.len
    rwa [show (w.alloc (.cells (numV a) 61)).heap.size = w.heap.size + 1 from Array.size_push _] at this
  have b0 : Below w.heap.size w ((w.alloc (.cells (numV a) 61)).alloc (.cells (numV b) 61)) := ((Below.refl _ w).alloc (Nat.le_refl _) _).alloc (((Below.refl _ w).alloc (Nat.le_refl _) _).size) _
  clear ha hb
  go_enter Tryz.func56, Tryz.ntmps56
  go_wp2
  go_loopw [5] (fun i wr => ∃ (k : Nat) (z : Int), k ≤ 24 ∧ z = (k : Int) - 1 ∧ i = .int .i64 z ∧ Hid (a.drop k = b.drop k) ∧ Row24 wr w.heap.size a ∧ Row24 wr (w.heap.size + 1) b ∧ Below w.heap.size w wr) (fun i _ => (intOf i + 1).toNat)
  case atStart => exact ⟨24, 23, Nat.le_refl _, rfl, rfl, Lib.hid (by rw [List.drop_eq_nil_of_le (by rw [HA.out.len]; exact Nat.le_refl _), List.drop_eq_nil_of_le (by rw [HB.out.len]; exact Nat.le_refl _)]), r1, r2, b0⟩
  case round =>
    obtain ⟨k, z, hk, hz, rfl, hd, hr1, hr2, hB⟩ := hrel
    clear r1 r2 b0
    by_cases hk0 : k = 0
    · subst hk0
      obtain rfl : z = -1 := by omega
      clear hz hk
      go_wp2
      go_ret
      exact ⟨ret_i64 (cmp_eq (by have := hd.out; rw [List.drop_zero, List.drop_zero] at this; rw [this])), hB⟩
    · obtain ⟨j, rfl⟩ : ∃ j, k = j + 1 := ⟨k - 1, by omega⟩
      obtain rfl : z = (j : Int) := by omega
      have hj : j < 24 := by omega
      have c1 := hr1.cell hj
      have c2 := hr2.cell hj
      have j0 : (0 : Int) ≤ (j : Int) := by omega
      have j1 : (j : Int) < 24 := by omega
      obtain ⟨x, hx⟩ : ∃ x, a.getD j 0 = x := ⟨_, rfl⟩
      obtain ⟨y, hy⟩ : ∃ y, b.getD j 0 = y := ⟨_, rfl⟩
      rw [hx] at c1
      rw [hy] at c2
      have hja : j < a.length := by rw [HA.out.len]; exact hj
      have hjb : j < b.length := by rw [HB.out.len]; exact hj
      rcases Nat.lt_trichotomy x y with hlt | heq | hgt
      · have d1 : decide (x < y) = true := decide_eq_true (by omega)
        have ho : Hid (Dc.valB a < Dc.valB b) := Lib.hid (Dc.valB_order hja hjb HA.out.low hd.out (by rw [hx, hy]; exact hlt))
        clear hlt hx hy hja hjb hz hk0
        go_wp2
        go_quiet (fail)
        go_wp2
        go_ret
        exact ⟨ret_i64 (cmp_lt ho.out), below_drewN hB _⟩
      · have d1 : decide (x < y) = false := decide_eq_false (by omega)
        have d2 : decide (y < x) = false := decide_eq_false (by omega)
        have hd2 : Hid (a.drop j = b.drop j) := Lib.hid (by rw [Dc.drop_getD hja, Dc.drop_getD hjb, hd.out, hx, hy, heq])
        clear heq hx hy hja hjb hz hk0 hd
        go_wp2
        go_quiet (fail)
        go_wp2
        go_quiet (fail)
        go_wp2
        go_roundw
        case rel => exact ⟨j, (j : Int) - 1, by omega, rfl, rfl, hd2, hr1.drew _, hr2.drew _, below_drewN hB _⟩
        case measure => simp [intOf]
      · have d1 : decide (x < y) = false := decide_eq_false (by omega)
        have d2 : decide (y < x) = true := decide_eq_true (by omega)
        have ho : Hid (Dc.valB b < Dc.valB a) := Lib.hid (Dc.valB_order hjb hja HB.out.low hd.out.symm (by rw [hx, hy]; exact hgt))
        clear hgt hx hy hja hjb hz hk0
        go_wp2
        go_quiet (fail)
        go_wp2
        go_quiet (fail)
        go_wp2
        go_ret
        exact ⟨ret_i64 (cmp_gt ho.out), below_drewN (below_drewN hB _) _⟩
end Go.Proofs.YthmmjihldkjhhaaGreatDoor
