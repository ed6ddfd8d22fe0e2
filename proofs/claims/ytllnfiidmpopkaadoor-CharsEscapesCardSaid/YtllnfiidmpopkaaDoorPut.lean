/-
  What put of the program does: the bytes of a character go to the end of an owned slice. Condition: at most a million bytes before.
-/
import Derived.Test.YtllnfiidmpopkaaDoorKinds
import Derived.Laws.AppendOwn
import Derived.OwnWalk
import Derived.Laws.BitsLemmas
import Derived.Laws.Shifts
import Derived.Deep.DeepMust
namespace Go.Proofs.YtllnfiidmpopkaaDoor
open Go Go.RowKit
/-- Numbers as bytes. -/
def u8s (l : List Nat) : List Value := l.map fun n : Nat => Value.int .u8 (n : Int)
def u8i (l : List Int) : List Value := l.map fun n : Int => Value.int .u8 n
theorem u8i_nat (l : List Nat) : u8i (l.map fun n : Nat => (n : Int)) = u8s l := by simp [u8i, u8s]
theorem u8s_length (l : List Nat) : (u8s l).length = l.length := List.length_map _
theorem u8s_append (l m : List Nat) : u8s (l ++ m) = u8s l ++ u8s m := List.map_append

theorem cells_new (w : World) (cs : Array Value) (e : TypeId) : ∀ j u, cs.toList[j]? = some u → (w.alloc (.cells cs e)).cell? ((⟨w.heap.size, 0, none⟩ : Addr).add j) = some u := by
  intro j u h
  have h' : cs[j]? = some u := by simpa using h
  have hb : ((⟨w.heap.size, 0, none⟩ : Addr).add j) = ⟨w.heap.size, j, none⟩ := by
    unfold Addr.add; split
    · rename_i h0; rw [h0]
    · simp
  rw [hb]
  show (match (w.heap.push (.cells cs e))[w.heap.size]? with | some (.cells c _ _) => if (none : Option Nat).isSome then none else c[j]? | _ => none) = some u
  rw [Array.getElem?_push_size]
  simpa using h'

theorem grownBy_alloc {w w1 : World} {o : Obj} {row : Option Nat} (h : (w.alloc o).grownBy w1 row) : w.grownBy w1 row :=
  ⟨h.os, h.tape, h.output, by have := h.size; simp at this; omega, fun k hk hr => (h.block k (by simp; omega) hr).trans (Below.heap_alloc w o k hk)⟩
theorem i32_and63 (x : Int) (h0 : 0 ≤ x) (h1 : x < 2147483648) : bits .and .i32 x 63 = x % 64 := bits_mask .i32 31 (by decide) wraps_i32 6 (by decide) x h0 h1
theorem i32_or_128 (y : Int) (h0 : 0 ≤ y) (h1 : y < 64) : bits .or .i32 128 y = 128 + y := bits_join .i32 31 (by decide) wraps_i32 6 128 y (by decide) (by decide) (by decide) h0 h1 (by omega)

theorem i32_or_224 (y : Int) (h0 : 0 ≤ y) (h1 : y < 16) : bits .or .i32 224 y = 224 + y := bits_join .i32 31 (by decide) wraps_i32 4 224 y (by decide) (by decide) (by decide) h0 h1 (by omega)
theorem i32_or_240 (y : Int) (h0 : 0 ≤ y) (h1 : y < 8) : bits .or .i32 240 y = 240 + y := bits_join .i32 31 (by decide) wraps_i32 3 240 y (by decide) (by decide) (by decide) h0 h1 (by omega)

theorem Tryd.info5 : (Tryd.prog.info? 5).map (fun i => (i.zero, i.size, i.bytes)) = some (some (.int .u8 0), 1, 1) := by kernel_rfl

set_option maxRecDepth 100000 in
set_option maxHeartbeats 400000 in
theorem f45_1 (c : Int) (v : Value) (xs : List Value) (B : Nat) (w : World) (hB : B ≤ w.heap.size) (hown : w.ownsRow B 5 1 v xs.length xs) (hn : xs.length ≤ 1000000) (h1 : 0 ≤ c) (h2 : c < 128) :
    Calls Tryd.prog 45 #[v, .int .i32 c] w fun e w' => ∃ v', e = .returned v' ∧ w'.ownsRow B 5 1 v' (xs.length + 1) (xs ++ u8i [c]) ∧ w.grownBy w' v.ownBlock := by
  obtain ⟨i0, hi, hz0, hz1, hz2⟩ := info_parts Tryd.info5
  go_enter Tryd.func45, Tryd.ntmps45
  go_wp2_with (at_builtin; go_must (refine wpList_append_own _ rfl _ _ 46 rfl B 5 i0 (.int .u8 0) 1 1 Tryd.underlying46 hi hz0 hz1 hz2 rfl (by decide) v xs.length xs rfl (hown.alloc _) ⟨w.heap.size, 0, none⟩ 1 1 _ rfl rfl (cells_new _ _ _) (by simp [Value.oneCell']) (by unfold maxLen; omega) (by omega) (by simp; omega) ?_); intro v' w1 hown' hgrow _)
  go_ret
  go_light
  exact ⟨v', rfl, hown', grownBy_alloc hgrow⟩
set_option maxRecDepth 100000 in
set_option maxHeartbeats 400000 in
theorem f45_2 (c : Int) (v : Value) (xs : List Value) (B : Nat) (w : World) (hB : B ≤ w.heap.size) (hown : w.ownsRow B 5 1 v xs.length xs) (hn : xs.length ≤ 1000000) (h1 : 128 ≤ c) (h2 : c < 2048) :
    Calls Tryd.prog 45 #[v, .int .i32 c] w fun e w' => ∃ v', e = .returned v' ∧ w'.ownsRow B 5 1 v' (xs.length + 2) (xs ++ u8i [192 + c / 64, 128 + c % 64]) ∧ w.grownBy w' v.ownBlock := by
  obtain ⟨i0, hi, hz0, hz1, hz2⟩ := info_parts Tryd.info5
  have e1 := i32_and63 (c) (by omega) (by omega)
  have e2 := i32_or_128 (c % 64) (by omega) (by omega)
  go_enter Tryd.func45, Tryd.ntmps45
  go_wp2_with (at_builtin; go_must (refine wpList_append_own _ rfl _ _ 46 rfl B 5 i0 (.int .u8 0) 1 1 Tryd.underlying46 hi hz0 hz1 hz2 rfl (by decide) v xs.length xs rfl (hown.alloc _) ⟨w.heap.size, 0, none⟩ 2 2 _ rfl rfl (cells_new _ _ _) (by simp [Value.oneCell']) (by unfold maxLen; omega) (by omega) (by simp; omega) ?_); intro v' w1 hown' hgrow _)
  go_ret
  go_light
  exact ⟨v', rfl, hown', grownBy_alloc hgrow⟩
set_option maxRecDepth 100000 in
set_option maxHeartbeats 400000 in
theorem f45_3 (c : Int) (v : Value) (xs : List Value) (B : Nat) (w : World) (hB : B ≤ w.heap.size) (hown : w.ownsRow B 5 1 v xs.length xs) (hn : xs.length ≤ 1000000) (h1 : 2048 ≤ c) (h2 : c < 65536) :
    Calls Tryd.prog 45 #[v, .int .i32 c] w fun e w' => ∃ v', e = .returned v' ∧ w'.ownsRow B 5 1 v' (xs.length + 3) (xs ++ u8i [224 + c / 4096, 128 + c / 64 % 64, 128 + c % 64]) ∧ w.grownBy w' v.ownBlock := by
  obtain ⟨i0, hi, hz0, hz1, hz2⟩ := info_parts Tryd.info5
  have e1 := i32_and63 (c) (by omega) (by omega)
  have e2 := i32_or_128 (c % 64) (by omega) (by omega)
  have e3 := i32_and63 (c / 64) (by omega) (by omega)
  have e4 := i32_or_128 (c / 64 % 64) (by omega) (by omega)
  have e7 := i32_or_224 (c / 4096) (by omega) (by omega)
  go_enter Tryd.func45, Tryd.ntmps45
  go_wp2_with (at_builtin; go_must (refine wpList_append_own _ rfl _ _ 46 rfl B 5 i0 (.int .u8 0) 1 1 Tryd.underlying46 hi hz0 hz1 hz2 rfl (by decide) v xs.length xs rfl (hown.alloc _) ⟨w.heap.size, 0, none⟩ 3 3 _ rfl rfl (cells_new _ _ _) (by simp [Value.oneCell']) (by unfold maxLen; omega) (by omega) (by simp; omega) ?_); intro v' w1 hown' hgrow _)
  go_ret
  go_light
  exact ⟨v', rfl, hown', grownBy_alloc hgrow⟩
set_option maxRecDepth 100000 in
set_option maxHeartbeats 400000 in
theorem f45_4 (c : Int) (v : Value) (xs : List Value) (B : Nat) (w : World) (hB : B ≤ w.heap.size) (hown : w.ownsRow B 5 1 v xs.length xs) (hn : xs.length ≤ 1000000) (h1 : 65536 ≤ c) (h2 : c ≤ 1114111) :
    Calls Tryd.prog 45 #[v, .int .i32 c] w fun e w' => ∃ v', e = .returned v' ∧ w'.ownsRow B 5 1 v' (xs.length + 4) (xs ++ u8i [240 + c / 262144, 128 + c / 4096 % 64, 128 + c / 64 % 64, 128 + c % 64]) ∧ w.grownBy w' v.ownBlock := by
  obtain ⟨i0, hi, hz0, hz1, hz2⟩ := info_parts Tryd.info5
  have e1 := i32_and63 (c) (by omega) (by omega)
  have e2 := i32_or_128 (c % 64) (by omega) (by omega)
  have e3 := i32_and63 (c / 64) (by omega) (by omega)
  have e4 := i32_or_128 (c / 64 % 64) (by omega) (by omega)
  have e5 := i32_and63 (c / 4096) (by omega) (by omega)
  have e6 := i32_or_128 (c / 4096 % 64) (by omega) (by omega)
  have e7 := i32_or_240 (c / 262144) (by omega) (by omega)
  go_enter Tryd.func45, Tryd.ntmps45
  go_wp2_with (at_builtin; go_must (refine wpList_append_own _ rfl _ _ 46 rfl B 5 i0 (.int .u8 0) 1 1 Tryd.underlying46 hi hz0 hz1 hz2 rfl (by decide) v xs.length xs rfl (hown.alloc _) ⟨w.heap.size, 0, none⟩ 4 4 _ rfl rfl (cells_new _ _ _) (by simp [Value.oneCell']) (by unfold maxLen; omega) (by omega) (by simp; omega) ?_); intro v' w1 hown' hgrow _)
  go_ret
  go_light
  exact ⟨v', rfl, hown', grownBy_alloc hgrow⟩

/-- The bytes of a character, as integers. -/
def encI (c : Int) : List Int := if c < 128 then [c] else if c < 2048 then [192 + c / 64, 128 + c % 64] else if c < 65536 then [224 + c / 4096, 128 + c / 64 % 64, 128 + c % 64] else [240 + c / 262144, 128 + c / 4096 % 64, 128 + c / 64 % 64, 128 + c % 64]
theorem encI_nat (n : Nat) : encI (n : Int) = (Ch.encN n).map fun k : Nat => (k : Int) := by
  unfold encI Ch.encN
  by_cases h1 : n < 128
  · rw [if_pos h1, if_pos (by omega)]; rfl
  · rw [if_neg h1, if_neg (by omega)]
    by_cases h2 : n < 2048
    · rw [if_pos h2, if_pos (by omega)]; rfl
    · rw [if_neg h2, if_neg (by omega)]
      by_cases h3 : n < 65536
      · rw [if_pos h3, if_pos (by omega)]; rfl
      · rw [if_neg h3, if_neg (by omega)]; rfl

theorem f45_any (n : Nat) (hc : n ≤ 1114111) (v : Value) (xs : List Value) (B : Nat) (w : World) (hB : B ≤ w.heap.size) (hown : w.ownsRow B 5 1 v xs.length xs) (hn : xs.length ≤ 1000000) :
    Calls Tryd.prog 45 #[v, .int .i32 (n : Int)] w fun e w' => ∃ v', e = .returned v' ∧ w'.ownsRow B 5 1 v' (xs.length + Ch.lenN n) (xs ++ u8s (Ch.encN n)) ∧ w.grownBy w' v.ownBlock := by
  rw [← u8i_nat, ← encI_nat]
  by_cases h1 : n < 128
  · rw [show encI (n : Int) = [(n : Int)] by unfold encI; rw [if_pos (by omega)], show Ch.lenN n = 1 by unfold Ch.lenN; rw [if_pos h1]]
    exact f45_1 _ v xs B w hB hown hn (by omega) (by omega)
  · by_cases h2 : n < 2048
    · rw [show encI (n : Int) = [192 + (n : Int) / 64, 128 + (n : Int) % 64] by unfold encI; rw [if_neg (by omega), if_pos (by omega)], show Ch.lenN n = 2 by unfold Ch.lenN; rw [if_neg h1, if_pos h2]]
      exact f45_2 _ v xs B w hB hown hn (by omega) (by omega)
    · by_cases h3 : n < 65536
      · rw [show encI (n : Int) = [224 + (n : Int) / 4096, 128 + (n : Int) / 64 % 64, 128 + (n : Int) % 64] by unfold encI; rw [if_neg (by omega), if_neg (by omega), if_pos (by omega)], show Ch.lenN n = 3 by unfold Ch.lenN; rw [if_neg h1, if_neg h2, if_pos h3]]
        exact f45_3 _ v xs B w hB hown hn (by omega) (by omega)
      · rw [show encI (n : Int) = [240 + (n : Int) / 262144, 128 + (n : Int) / 4096 % 64, 128 + (n : Int) / 64 % 64, 128 + (n : Int) % 64] by unfold encI; rw [if_neg (by omega), if_neg (by omega), if_neg (by omega)], show Ch.lenN n = 4 by unfold Ch.lenN; rw [if_neg h1, if_neg h2, if_neg h3]]
        exact f45_4 _ v xs B w hB hown hn (by omega) (by omega)
end Go.Proofs.YtllnfiidmpopkaaDoor
