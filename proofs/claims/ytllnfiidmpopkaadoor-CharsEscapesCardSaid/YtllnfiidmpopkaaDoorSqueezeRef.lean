/-
  What Squeeze of the reference returns. Conditions: the string's size.
-/
import Derived.Test.YtllnfiidmpopkaaDoorEscapeRef
namespace Go.Proofs.YtllnfiidmpopkaaDoor
open Go Go.RowKit

/-- A byte, with every blank a space. -/
def sqB (c : Nat) : Nat := if Ch.blank c then 32 else c
/-- One byte of a text whose blanks are drawn together. -/
def sqStep (out : List Nat) (c : Nat) : List Nat := if sqB c = 32 ∧ (out = [] ∨ out.getLast? = some 32) then out else out ++ [sqB c]
def sqRow (l : List Nat) : List Nat := l.foldl sqStep []
/-- A text whose blanks are drawn together. -/
def sqTwo (l : List Nat) : List Nat := if (sqRow l).getLast? = some 32 then (sqRow l).dropLast else sqRow l

theorem sqB_lt {c : Nat} (h : c < 256) : sqB c < 256 := by unfold sqB; split <;> omega
theorem sqStep_length (out : List Nat) (c : Nat) : (sqStep out c).length ≤ out.length + 1 := by
  unfold sqStep; split
  · omega
  · simp
theorem sqRow_length (l : List Nat) : (sqRow l).length ≤ l.length := by
  have : ∀ (l out : List Nat), (l.foldl sqStep out).length ≤ out.length + l.length := by
    intro l
    induction l with
    | nil => intro out; simp
    | cons c l ih =>
      intro out
      have h1 := ih (sqStep out c)
      have h2 := sqStep_length out c
      simp only [List.foldl_cons, List.length_cons]; omega
  have h := this l []
  rw [List.length_nil, Nat.zero_add] at h
  exact h
theorem sqRow_succ (s : ByteArray) (k : Nat) (h : k < s.size) : sqRow ((bts s).take (k + 1)) = sqStep (sqRow ((bts s).take k)) (s[k]'h).toNat := by
  rw [bts_take_succ s k h]; simp [sqRow]
theorem own_last {W : World} {B n : Nat} {v : Value} {out : List Nat} (h : W.ownsRow B 5 1 v (n + 1) (u8s out)) :
    ∃ g cap, v = .slice (some ⟨g, 0, none⟩) (n + 1) cap ∧ n + 1 ≤ cap ∧ W.cell? ⟨g, n, none⟩ = some (.int .u8 (out.getD n 0 : Nat)) := by
  obtain ⟨hl, ⟨_, h0⟩ | ⟨g, cap, cur, rfl, _, hg, hn, hc, hz, ht⟩⟩ := h
  · omega
  · refine ⟨g, cap, rfl, hn, ?_⟩
    have hl2 : n < out.length := by rw [u8s_length] at hl; omega
    have e : (cur.toList.take ((n + 1) * 1))[n]? = cur.toList[n]? := List.getElem?_take_of_lt (by omega)
    rw [ht] at e
    have e2 : cur[n]? = some (Value.int .u8 (out.getD n 0 : Nat)) := by
      rw [← Array.getElem?_toList, ← e]
      simp [u8s, hl2, List.getD_eq_getElem?_getD]
    simp [World.cell?, hg, e2]

set_option maxRecDepth 100000 in
set_option maxHeartbeats 1000000 in
theorem f23_1 (s : ByteArray) (hs : s.size ≤ 150000) (w : World) (hw : wrongI s = -1) : Calls Tryd.prog 23 #[.string s, .int .i64 1] w fun e w' =>
    e = .returned (.tuple #[.string (str ((bts s).map sqB)), .int .i64 0]) ∧ Below w.heap.size w w' := by
  obtain ⟨i0, hi, hz0, hz1, hz2⟩ := info_parts Tryd.info5
  have hd : decide (wrongI s = -1) = true := decide_eq_true hw
  have HD : Hid _ := Lib.hid hd
  clear hd hw
  go_enter Tryd.func23, Tryd.ntmps23
  go_wp2_with (go_at_call 36; refine (f36_any s (by omega) _).mono ?_; rintro e w0 ⟨rfl, hb0⟩; rw [HD.out])
  go_loopw [6, 7] (fun v i wr => ∃ (k : Nat) (out : List Nat), k ≤ s.size ∧ i = .int .i64 k ∧ out.length = k ∧ Hid (out = ((bts s).take k).map sqB) ∧ wr.ownsRow w.heap.size 5 1 v out.length (u8s out) ∧ Below w.heap.size w wr) (fun _ i _ => s.size - (intOf i).toNat)
  case atStart => exact ⟨0, [], Nat.zero_le _, rfl, rfl, Lib.hid rfl, ⟨rfl, .inl ⟨rfl, rfl⟩⟩, hb0⟩
  case round =>
    obtain ⟨k, out, hk, rfl, hol, hout, hown, hB⟩ := hrel
    by_cases hlt : k < s.size
    · obtain ⟨c, hc⟩ : ∃ c, (s[k]'hlt).toNat = c := ⟨_, rfl⟩
      have hwr : wrap32 (c : Int) = (c : Int) := by have := (s[k]'hlt).toNat_lt; unfold wrap32; omega
      have hout' : Hid (out ++ [sqB c] = ((bts s).take (k + 1)).map sqB) := Lib.hid (by rw [bts_take_succ s k hlt, List.map_append, ← hout.out, hc]; rfl)
      cases hbl : Ch.blank (c : Int) with
      | true =>
        have e1 : Hid (sqB c = 32) := Lib.hid (by simp [sqB, hbl])
        have HBL : Hid _ := Lib.hid hbl
        clear hbl hout
        go_wp2_with (first
          | (go_at_call 11; refine (f11_any _ _).mono ?_; rintro e w3 ⟨rfl, rfl⟩; rw [HBL.out])
          | (at_builtin; go_must (refine wpList_append_own _ rfl _ _ 46 rfl w.heap.size 5 i0 (.int .u8 0) 1 1 Tryd.underlying46 hi hz0 hz1 hz2 rfl (by decide) _ out.length (u8s out) rfl (hown.alloc _) ⟨wr.heap.size, 0, none⟩ 1 1 [.int .u8 32] rfl rfl (cell_one_new _ _ _) (by simp [Value.oneCell']) (by unfold maxLen; omega) (by omega) (by have := hB.size; simp; omega) ?_); intro v' w2 hown2 hgrow _))
        go_roundw
        case rel =>
          rw [e1.out] at hout'
          exact ⟨k + 1, out ++ [32], by omega, by simp, by simp [hol], hout', by rw [u8s_append, List.length_append]; exact hown2, hB.grown (grownBy_alloc hgrow) hB.size (fun j e => (Nat.lt_or_ge j w.heap.size).elim (fun hj => absurd e.symm (row_ge hown j hj)) id)⟩
        case measure => simp [intOf]; omega
      | false =>
        have e1 : Hid (sqB c = c) := Lib.hid (by simp [sqB, hbl])
        have HBL : Hid _ := Lib.hid hbl
        clear hbl hout
        go_wp2_with (first
          | (go_at_call 11; refine (f11_any _ _).mono ?_; rintro e w3 ⟨rfl, rfl⟩; rw [HBL.out])
          | (at_builtin; go_must (refine wpList_append_own _ rfl _ _ 46 rfl w.heap.size 5 i0 (.int .u8 0) 1 1 Tryd.underlying46 hi hz0 hz1 hz2 rfl (by decide) _ out.length (u8s out) rfl (hown.alloc _) ⟨wr.heap.size, 0, none⟩ 1 1 [.int .u8 (c : Int)] rfl rfl (cell_one_new _ _ _) (by simp [Value.oneCell']) (by unfold maxLen; omega) (by omega) (by have := hB.size; simp; omega) ?_); intro v' w2 hown2 hgrow _))
        go_roundw
        case rel =>
          rw [e1.out] at hout'
          exact ⟨k + 1, out ++ [c], by omega, by simp, by simp [hol], hout', by rw [u8s_append, List.length_append]; exact hown2, hB.grown (grownBy_alloc hgrow) hB.size (fun j e => (Nat.lt_or_ge j w.heap.size).elim (fun hj => absurd e.symm (row_ge hown j hj)) id)⟩
        case measure => simp [intOf]; omega
    · have hke : (bts s).take k = bts s := List.take_of_length_le (by rw [bts_length]; omega)
      rw [hke] at hout
      have hown' := hown
      rw [u8s_i] at hown'
      have hcv := run_str_own hown'
      rw [strI_nat] at hcv
      rw [hout.out] at hcv
      clear hke hown'
      go_wp2
      go_ret2
      go_light
      exact ⟨rfl, hB⟩

set_option maxRecDepth 100000 in
set_option maxHeartbeats 1000000 in
theorem f23_0 (s : ByteArray) (hs : s.size ≤ 150000) (w : World) (hw : wrongI s = -1) : Calls Tryd.prog 23 #[.string s, .int .i64 0] w fun e w' =>
    e = .returned (.tuple #[.string s, .int .i64 0]) ∧ Below w.heap.size w w' := by
  have hd : decide (wrongI s = -1) = true := decide_eq_true hw
  have HD : Hid _ := Lib.hid hd
  clear hd hw
  go_enter Tryd.func23, Tryd.ntmps23
  go_wp2_with (go_at_call 36; refine (f36_any s (by omega) _).mono ?_; rintro e w0 ⟨rfl, hb0⟩; rw [HD.out])
  go_ret2
  go_light
  exact ⟨rfl, hb0⟩
set_option maxRecDepth 100000 in
set_option maxHeartbeats 1000000 in
theorem f23_wrong (s : ByteArray) (m : Int) (hs : s.size ≤ 150000) (w : World) (hw : 0 ≤ wrongI s) (h1 : decide (m < 0) = false) (h2 : decide (2 < m) = false) : Calls Tryd.prog 23 #[.string s, .int .i64 m] w fun e w' =>
    e = .returned (.tuple #[.string ⟨#[]⟩, .int .i64 6]) ∧ Below w.heap.size w w' := by
  have hd : decide (wrongI s = -1) = false := decide_eq_false (by omega)
  have HD : Hid _ := Lib.hid hd
  clear hd hw
  go_enter Tryd.func23, Tryd.ntmps23
  go_wp2_with (go_at_call 36; refine (f36_any s (by omega) _).mono ?_; rintro e w0 ⟨rfl, hb0⟩; rw [HD.out])
  go_ret2
  go_light
  exact ⟨rfl, hb0⟩
set_option maxRecDepth 100000 in
set_option maxHeartbeats 1000000 in
theorem f23_low (s : ByteArray) (m : Int) (w : World) (h1 : decide (m < 0) = true) : Calls Tryd.prog 23 #[.string s, .int .i64 m] w fun e w' =>
    e = .returned (.tuple #[.string ⟨#[]⟩, .int .i64 2]) ∧ Below w.heap.size w w' := by
  go_enter Tryd.func23, Tryd.ntmps23
  go_wp2
  go_ret2
  go_light
  exact ⟨rfl, Below.refl _ _⟩
set_option maxRecDepth 100000 in
set_option maxHeartbeats 1000000 in
theorem f23_high (s : ByteArray) (m : Int) (w : World) (h1 : decide (m < 0) = false) (h2 : decide (2 < m) = true) : Calls Tryd.prog 23 #[.string s, .int .i64 m] w fun e w' =>
    e = .returned (.tuple #[.string ⟨#[]⟩, .int .i64 2]) ∧ Below w.heap.size w w' := by
  go_enter Tryd.func23, Tryd.ntmps23
  go_wp2
  go_ret2
  go_light
  exact ⟨rfl, Below.refl _ _⟩
end Go.Proofs.YtllnfiidmpopkaaDoor
