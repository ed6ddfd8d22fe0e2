/-
  What 'more' of the reference returns, for one, two and three bytes. No condition.
-/
import Derived.Test.YtllnfiidmpopkaaDoorStr
namespace Go.Proofs.YtllnfiidmpopkaaDoor
open Go Go.RowKit

/-- A string's bytes as numbers. -/
def bts (s : ByteArray) : List Nat := s.data.toList.map (·.toNat)
/-- Byte number i, 0 beyond the end. -/
def gb (s : ByteArray) (i : Nat) : Nat := (bts s).getD i 0
theorem bts_length (s : ByteArray) : (bts s).length = s.size := by simp [bts]
theorem byte_eq {s : ByteArray} {i : Nat} (h : i < s.size) : (s[i]'h).toNat = gb s i := by
  unfold gb
  have h' : i < s.data.toList.length := by simpa using h
  have e : (bts s)[i]? = some (s.data.toList[i].toNat) := by simpa [bts] using ⟨_, Array.getElem?_eq_getElem h, rfl⟩
  rw [List.getD_eq_getElem?_getD, e]
  rfl
theorem gb_lt (s : ByteArray) (i : Nat) : gb s i < 256 := by
  by_cases h : i < s.size
  · rw [← byte_eq h]; exact (s[i]'h).toNat_lt
  · unfold gb; rw [List.getD_eq_getElem?_getD, List.getElem?_eq_none (by rw [bts_length]; omega)]; decide
theorem bts_str (l : List Nat) (h : ∀ b ∈ l, b < 256) : bts (str l) = l := by
  unfold bts str
  rw [List.map_map]
  conv => rhs; rw [← List.map_id l]
  refine List.map_congr_left (fun b hb => ?_)
  have := h b hb
  simp; omega
theorem str_bts (s : ByteArray) : str (bts s) = s := by
  unfold bts str
  rw [List.map_map]
  have : (UInt8.ofNat ∘ fun x : UInt8 => x.toNat) = id := by funext x; simp
  rw [this, List.map_id]

theorem ret_ib {k : IntKind} {a a' : Int} {b b' : Bool} (h : a = a') (hb : b = b') : Ending.returned (.tuple #[.int k a, .bool b]) = .returned (.tuple #[.int k a', .bool b']) := by rw [h, hb]
theorem ret_ii {k k2 : IntKind} {a a' b b' : Int} (h : a = a') (hb : b = b') : Ending.returned (.tuple #[.int k a, .int k2 b]) = .returned (.tuple #[.int k a', .int k2 b']) := by rw [h, hb]


set_option maxRecDepth 100000 in
set_option maxHeartbeats 400000 in
theorem f56_1_ok (n : Int) (s : ByteArray) (w : World) (c : Int) (h0 : 0 ≤ n) (h1 : n ≤ 31) (hs : s.size ≤ maxLen) (hlen : 2 ≤ s.size) (ht : 128 ≤ gb s 1 ∧ gb s 1 < 192) (hc : c = (n) * 64 + ((gb s 1 : Nat) - 128 : Int)) :
    Calls Tryd.prog 56 #[.int .i32 n, .string s, .int .i64 1] w fun e w' => e = .returned (.tuple #[.int .i32 c, .bool true]) ∧ w = w' := by
  unfold maxLen at hs
  have H : Hid _ := Lib.hid hc
  clear hc
  have hl1 : 1 < s.size := by omega
  have t1 : 128 ≤ (s[1]'hl1).toNat := by rw [byte_eq]; omega
  have u1 : (s[1]'hl1).toNat < 192 := by rw [byte_eq]; omega
  go_enter Tryd.func56, Tryd.ntmps56
  go_wp2
  refine wp_loop_rounds 2 ?_
  rw [rounds_succ]
  go_wp2
  iterate 1 all_goals (try (rw [rounds_succ]; go_wp2))
  all_goals go_ret2
  all_goals go_light
  all_goals exact ⟨ret_ib (by rw [H.out]; simp only [byte_eq]) rfl, rfl⟩
set_option maxRecDepth 100000 in
set_option maxHeartbeats 400000 in
theorem f56_1_no (n : Int) (s : ByteArray) (w : World) (h0 : 0 ≤ n) (h1 : n ≤ 31) (hs : s.size ≤ maxLen) (hno : ¬ (2 ≤ s.size ∧ 128 ≤ gb s 1 ∧ gb s 1 < 192)) :
    Calls Tryd.prog 56 #[.int .i32 n, .string s, .int .i64 1] w fun e w' => e = .returned (.tuple #[.int .i32 0, .bool false]) ∧ w = w' := by
  unfold maxLen at hs
  have H : Hid _ := Lib.hid hno
  clear hno
  by_cases hlen : 2 ≤ s.size
  · go_enter Tryd.func56, Tryd.ntmps56
    go_wp2
    refine wp_loop_rounds 2 ?_
    rw [rounds_succ]
    go_wp2
    iterate 1 all_goals (try (rw [rounds_succ]; go_wp2))
    all_goals go_ret2
    all_goals go_light
    all_goals first | exact ⟨rfl, rfl⟩ | (exfalso; have hno := H.out; simp only [byte_eq] at *; omega)
  · go_enter Tryd.func56, Tryd.ntmps56
    go_wp2
    go_ret2
    exact ⟨rfl, rfl⟩

set_option maxRecDepth 100000 in
set_option maxHeartbeats 400000 in
theorem f56_2_ok (n : Int) (s : ByteArray) (w : World) (c : Int) (h0 : 0 ≤ n) (h1 : n ≤ 31) (hs : s.size ≤ maxLen) (hlen : 3 ≤ s.size) (ht : 128 ≤ gb s 1 ∧ gb s 1 < 192 ∧ 128 ≤ gb s 2 ∧ gb s 2 < 192) (hc : c = ((n) * 64 + ((gb s 1 : Nat) - 128 : Int)) * 64 + ((gb s 2 : Nat) - 128 : Int)) :
    Calls Tryd.prog 56 #[.int .i32 n, .string s, .int .i64 2] w fun e w' => e = .returned (.tuple #[.int .i32 c, .bool true]) ∧ w = w' := by
  unfold maxLen at hs
  have H : Hid _ := Lib.hid hc
  clear hc
  have hl1 : 1 < s.size := by omega
  have t1 : 128 ≤ (s[1]'hl1).toNat := by rw [byte_eq]; omega
  have u1 : (s[1]'hl1).toNat < 192 := by rw [byte_eq]; omega
  have hl2 : 2 < s.size := by omega
  have t2 : 128 ≤ (s[2]'hl2).toNat := by rw [byte_eq]; omega
  have u2 : (s[2]'hl2).toNat < 192 := by rw [byte_eq]; omega
  go_enter Tryd.func56, Tryd.ntmps56
  go_wp2
  refine wp_loop_rounds 3 ?_
  rw [rounds_succ]
  go_wp2
  iterate 2 all_goals (try (rw [rounds_succ]; go_wp2))
  all_goals go_ret2
  all_goals go_light
  all_goals exact ⟨ret_ib (by rw [H.out]; simp only [byte_eq]) rfl, rfl⟩
set_option maxRecDepth 100000 in
set_option maxHeartbeats 400000 in
theorem f56_2_no (n : Int) (s : ByteArray) (w : World) (h0 : 0 ≤ n) (h1 : n ≤ 31) (hs : s.size ≤ maxLen) (hno : ¬ (3 ≤ s.size ∧ 128 ≤ gb s 1 ∧ gb s 1 < 192 ∧ 128 ≤ gb s 2 ∧ gb s 2 < 192)) :
    Calls Tryd.prog 56 #[.int .i32 n, .string s, .int .i64 2] w fun e w' => e = .returned (.tuple #[.int .i32 0, .bool false]) ∧ w = w' := by
  unfold maxLen at hs
  have H : Hid _ := Lib.hid hno
  clear hno
  by_cases hlen : 3 ≤ s.size
  · go_enter Tryd.func56, Tryd.ntmps56
    go_wp2
    refine wp_loop_rounds 3 ?_
    rw [rounds_succ]
    go_wp2
    iterate 2 all_goals (try (rw [rounds_succ]; go_wp2))
    all_goals go_ret2
    all_goals go_light
    all_goals first | exact ⟨rfl, rfl⟩ | (exfalso; have hno := H.out; simp only [byte_eq] at *; omega)
  · go_enter Tryd.func56, Tryd.ntmps56
    go_wp2
    go_ret2
    exact ⟨rfl, rfl⟩

set_option maxRecDepth 100000 in
set_option maxHeartbeats 400000 in
theorem f56_3_ok (n : Int) (s : ByteArray) (w : World) (c : Int) (h0 : 0 ≤ n) (h1 : n ≤ 31) (hs : s.size ≤ maxLen) (hlen : 4 ≤ s.size) (ht : 128 ≤ gb s 1 ∧ gb s 1 < 192 ∧ 128 ≤ gb s 2 ∧ gb s 2 < 192 ∧ 128 ≤ gb s 3 ∧ gb s 3 < 192) (hc : c = (((n) * 64 + ((gb s 1 : Nat) - 128 : Int)) * 64 + ((gb s 2 : Nat) - 128 : Int)) * 64 + ((gb s 3 : Nat) - 128 : Int)) :
    Calls Tryd.prog 56 #[.int .i32 n, .string s, .int .i64 3] w fun e w' => e = .returned (.tuple #[.int .i32 c, .bool true]) ∧ w = w' := by
  unfold maxLen at hs
  have H : Hid _ := Lib.hid hc
  clear hc
  have hl1 : 1 < s.size := by omega
  have t1 : 128 ≤ (s[1]'hl1).toNat := by rw [byte_eq]; omega
  have u1 : (s[1]'hl1).toNat < 192 := by rw [byte_eq]; omega
  have hl2 : 2 < s.size := by omega
  have t2 : 128 ≤ (s[2]'hl2).toNat := by rw [byte_eq]; omega
  have u2 : (s[2]'hl2).toNat < 192 := by rw [byte_eq]; omega
  have hl3 : 3 < s.size := by omega
  have t3 : 128 ≤ (s[3]'hl3).toNat := by rw [byte_eq]; omega
  have u3 : (s[3]'hl3).toNat < 192 := by rw [byte_eq]; omega
  go_enter Tryd.func56, Tryd.ntmps56
  go_wp2
  refine wp_loop_rounds 4 ?_
  rw [rounds_succ]
  go_wp2
  iterate 3 all_goals (try (rw [rounds_succ]; go_wp2))
  all_goals go_ret2
  all_goals go_light
  all_goals exact ⟨ret_ib (by rw [H.out]; simp only [byte_eq]) rfl, rfl⟩
set_option maxRecDepth 100000 in
set_option maxHeartbeats 400000 in
theorem f56_3_no (n : Int) (s : ByteArray) (w : World) (h0 : 0 ≤ n) (h1 : n ≤ 31) (hs : s.size ≤ maxLen) (hno : ¬ (4 ≤ s.size ∧ 128 ≤ gb s 1 ∧ gb s 1 < 192 ∧ 128 ≤ gb s 2 ∧ gb s 2 < 192 ∧ 128 ≤ gb s 3 ∧ gb s 3 < 192)) :
    Calls Tryd.prog 56 #[.int .i32 n, .string s, .int .i64 3] w fun e w' => e = .returned (.tuple #[.int .i32 0, .bool false]) ∧ w = w' := by
  unfold maxLen at hs
  have H : Hid _ := Lib.hid hno
  clear hno
  by_cases hlen : 4 ≤ s.size
  · go_enter Tryd.func56, Tryd.ntmps56
    go_wp2
    refine wp_loop_rounds 4 ?_
    rw [rounds_succ]
    go_wp2
    iterate 3 all_goals (try (rw [rounds_succ]; go_wp2))
    all_goals go_ret2
    all_goals go_light
    all_goals first | exact ⟨rfl, rfl⟩ | (exfalso; have hno := H.out; simp only [byte_eq] at *; omega)
  · go_enter Tryd.func56, Tryd.ntmps56
    go_wp2
    go_ret2
    exact ⟨rfl, rfl⟩
end Go.Proofs.YtllnfiidmpopkaaDoor
