/-
  What a reference between an ampersand and a semicolon means: the law, and 'digit' of the reference.
-/
import Derived.Test.YtllnfiidmpopkaaDoorNum
namespace Go.Proofs.YtllnfiidmpopkaaDoor
open Go Go.RowKit

/-- A number is a character, or nothing. -/
def chM (n : Nat) : Option Nat := if n ≤ 1114111 ∧ Ch.valid (n : Int) = true then some n else none
/-- Digits behind the number sign, or it and x. -/
def digM (h : Bool) (r : List Nat) : Option Nat :=
  if r = [] ∨ 20 < r.length then none else if h then (if r.all hexOk then chM (hexV r) else none) else (if r.all decOk then chM (decV r) else none)
/-- What the bytes between an ampersand and a semicolon mean. -/
def charM (l : List Nat) : Option Nat :=
  if l = [108, 116] then some 60 else if l = [103, 116] then some 62 else if l = [97, 109, 112] then some 38 else if l = [113, 117, 111, 116] then some 34 else if l = [97, 112, 111, 115] then some 39
  else if l.head? = some 35 then (if l.tail.head? = some 120 then digM true l.tail.tail else digM false l.tail) else none

/-- A digit's value in the base, or none. -/
def digN (c : Nat) (h : Bool) : Int := if h then (if hexOk c then (hexD c : Int) else -1) else (if decOk c then ((c - 48 : Nat) : Int) else -1)

theorem ret_i64 {n m : Int} (h : n = m) : Ending.returned (.int .i64 n) = Ending.returned (.int .i64 m) := by rw [h]

set_option maxRecDepth 100000 in
theorem f53_16 (c : Nat) (hc : c < 256) (w : World) : Calls Tryd.prog 53 #[.int .u8 (c : Int), .int .i64 16] w fun e w' => e = .returned (.int .i64 (digN c true)) ∧ w = w' := by
  have hD : Hid (digN c true = if hexOk c then (hexD c : Int) else -1) := Lib.hid rfl
  by_cases h1 : 48 ≤ c ∧ c ≤ 57
  · obtain ⟨d0, d1⟩ := h1
    have hF : Hid (digN c true = (c : Int) - 48) := Lib.hid (by rw [hD.out, if_pos (by simp [hexOk]; omega), hexD, if_pos d1]; omega)
    clear hD
    go_enter Tryd.func53, Tryd.ntmps53
    go_wp2
    go_ret
    exact ⟨ret_i64 hF.out.symm, rfl⟩
  · by_cases h2 : 97 ≤ c ∧ c ≤ 102
    · obtain ⟨d0, d1⟩ := h2
      have hF : Hid (digN c true = (c : Int) - 97 + 10) := Lib.hid (by rw [hD.out, if_pos (by simp [hexOk]; omega), hexD, if_neg (by omega), if_pos d0]; omega)
      clear hD h1
      go_enter Tryd.func53, Tryd.ntmps53
      go_wp2
      go_ret
      exact ⟨ret_i64 hF.out.symm, rfl⟩
    · by_cases h3 : 65 ≤ c ∧ c ≤ 70
      · obtain ⟨d0, d1⟩ := h3
        have hF : Hid (digN c true = (c : Int) - 65 + 10) := Lib.hid (by rw [hD.out, if_pos (by simp [hexOk]; omega), hexD, if_neg (by omega), if_neg (by omega)]; omega)
        clear hD h1 h2
        go_enter Tryd.func53, Tryd.ntmps53
        go_wp2
        go_ret
        exact ⟨ret_i64 hF.out.symm, rfl⟩
      · have hF : Hid (digN c true = -1) := Lib.hid (by rw [hD.out, if_neg (by simp [hexOk]; omega)])
        clear hD
        go_enter Tryd.func53, Tryd.ntmps53
        go_wp2
        all_goals go_ret
        all_goals exact ⟨ret_i64 hF.out.symm, rfl⟩

set_option maxRecDepth 100000 in
theorem f53_10 (c : Nat) (hc : c < 256) (w : World) : Calls Tryd.prog 53 #[.int .u8 (c : Int), .int .i64 10] w fun e w' => e = .returned (.int .i64 (digN c false)) ∧ w = w' := by
  have hD : Hid (digN c false = if decOk c then ((c - 48 : Nat) : Int) else -1) := Lib.hid rfl
  by_cases h1 : 48 ≤ c ∧ c ≤ 57
  · obtain ⟨d0, d1⟩ := h1
    have hF : Hid (digN c false = (c : Int) - 48) := Lib.hid (by rw [hD.out, if_pos (by simp [decOk]; omega)]; omega)
    clear hD
    go_enter Tryd.func53, Tryd.ntmps53
    go_wp2
    go_ret
    exact ⟨ret_i64 hF.out.symm, rfl⟩
  · have hF : Hid (digN c false = -1) := Lib.hid (by rw [hD.out, if_neg (by simp [decOk]; omega)])
    clear hD
    by_cases h2 : 97 ≤ c ∧ c ≤ 102
    · obtain ⟨d0, d1⟩ := h2
      clear h1
      go_enter Tryd.func53, Tryd.ntmps53
      go_wp2
      go_ret
      exact ⟨ret_i64 hF.out.symm, rfl⟩
    · by_cases h3 : 65 ≤ c ∧ c ≤ 70
      · obtain ⟨d0, d1⟩ := h3
        clear h1 h2
        go_enter Tryd.func53, Tryd.ntmps53
        go_wp2
        go_ret
        exact ⟨ret_i64 hF.out.symm, rfl⟩
      · go_enter Tryd.func53, Tryd.ntmps53
        go_wp2
        all_goals go_ret
        all_goals exact ⟨ret_i64 hF.out.symm, rfl⟩
end Go.Proofs.YtllnfiidmpopkaaDoor
