/-
  What 'escape' and Escape of the reference return. Conditions: the string's size.
-/
import Derived.Test.YtllnfiidmpopkaaDoorBuilder
namespace Go.Proofs.YtllnfiidmpopkaaDoor
open Go Go.RowKit

/-- What a byte becomes. -/
def escL (c : Nat) (a : Bool) : List Nat :=
  if c = 60 then [38, 108, 116, 59] else if c = 62 then [38, 103, 116, 59] else if c = 38 then [38, 97, 109, 112, 59] else if c = 13 then [38, 35, 49, 51, 59]
  else if a && decide (c = 34) then [38, 113, 117, 111, 116, 59] else if a && decide (c = 9) then [38, 35, 57, 59] else if a && decide (c = 10) then [38, 35, 49, 48, 59] else [c]
theorem escL_length (c : Nat) (a : Bool) : (escL c a).length ≤ 6 := by
  unfold escL
  split
  · decide
  split
  · decide
  split
  · decide
  split
  · decide
  split
  · decide
  split
  · decide
  split
  · decide
  · simp
theorem escL_lt (c : Nat) (a : Bool) (h : c < 256) : ∀ b ∈ escL c a, b < 256 := by
  unfold escL
  split
  · decide
  split
  · decide
  split
  · decide
  split
  · decide
  split
  · decide
  split
  · decide
  split
  · decide
  · simpa using h

set_option maxRecDepth 100000 in
theorem f37_60 (a : Bool) (w : World) : Calls Tryd.prog 37 #[.int .u8 60, .bool a] w fun e w' => e = .returned (.string (str [38, 108, 116, 59])) ∧ Below w.heap.size w w' := by
  go_enter Tryd.func37, Tryd.ntmps37
  go_wp2
  go_ret
  exact ⟨rfl, Below.refl _ _⟩

set_option maxRecDepth 100000 in
theorem f37_62 (a : Bool) (w : World) : Calls Tryd.prog 37 #[.int .u8 62, .bool a] w fun e w' => e = .returned (.string (str [38, 103, 116, 59])) ∧ Below w.heap.size w w' := by
  go_enter Tryd.func37, Tryd.ntmps37
  go_wp2
  go_ret
  exact ⟨rfl, Below.refl _ _⟩

set_option maxRecDepth 100000 in
theorem f37_38 (a : Bool) (w : World) : Calls Tryd.prog 37 #[.int .u8 38, .bool a] w fun e w' => e = .returned (.string (str [38, 97, 109, 112, 59])) ∧ Below w.heap.size w w' := by
  go_enter Tryd.func37, Tryd.ntmps37
  go_wp2
  go_ret
  exact ⟨rfl, Below.refl _ _⟩

set_option maxRecDepth 100000 in
theorem f37_13 (a : Bool) (w : World) : Calls Tryd.prog 37 #[.int .u8 13, .bool a] w fun e w' => e = .returned (.string (str [38, 35, 49, 51, 59])) ∧ Below w.heap.size w w' := by
  go_enter Tryd.func37, Tryd.ntmps37
  go_wp2
  go_ret
  exact ⟨rfl, Below.refl _ _⟩

set_option maxRecDepth 100000 in
theorem f37_34 (w : World) : Calls Tryd.prog 37 #[.int .u8 34, .bool true] w fun e w' => e = .returned (.string (str [38, 113, 117, 111, 116, 59])) ∧ Below w.heap.size w w' := by
  go_enter Tryd.func37, Tryd.ntmps37
  go_wp2
  go_ret
  exact ⟨rfl, Below.refl _ _⟩

set_option maxRecDepth 100000 in
theorem f37_9 (w : World) : Calls Tryd.prog 37 #[.int .u8 9, .bool true] w fun e w' => e = .returned (.string (str [38, 35, 57, 59])) ∧ Below w.heap.size w w' := by
  go_enter Tryd.func37, Tryd.ntmps37
  go_wp2
  go_ret
  exact ⟨rfl, Below.refl _ _⟩

set_option maxRecDepth 100000 in
theorem f37_10 (w : World) : Calls Tryd.prog 37 #[.int .u8 10, .bool true] w fun e w' => e = .returned (.string (str [38, 35, 49, 48, 59])) ∧ Below w.heap.size w w' := by
  go_enter Tryd.func37, Tryd.ntmps37
  go_wp2
  go_ret
  exact ⟨rfl, Below.refl _ _⟩

set_option maxRecDepth 100000 in
theorem f37_else_t (c : Nat) (w : World) (h60 : ((c : Int) == 60) = false) (h62 : ((c : Int) == 62) = false) (h38 : ((c : Int) == 38) = false) (h13 : ((c : Int) == 13) = false) (h34 : ((c : Int) == 34) = false) (h9 : ((c : Int) == 9) = false) (h10 : ((c : Int) == 10) = false) : Calls Tryd.prog 37 #[.int .u8 (c : Int), .bool true] w fun e w' => e = .returned (.string (str [c])) ∧ Below w.heap.size w w' := by
  have es : (convert 46 9 (.slice (some ⟨w.heap.size, 0, none⟩) 1 1)).run Tryd.prog (w.alloc (.cells #[.int .u8 (c : Int)] 5)) = .ok (.string (str [c])) (w.alloc (.cells #[.int .u8 (c : Int)] 5)) := run_str_new w [(c : Int)] 1
  go_enter Tryd.func37, Tryd.ntmps37
  go_wp2
  go_ret
  exact ⟨rfl, (Below.refl _ _).alloc (Nat.le_refl _) _⟩

set_option maxRecDepth 100000 in
theorem f37_else_f (c : Nat) (w : World) (h60 : ((c : Int) == 60) = false) (h62 : ((c : Int) == 62) = false) (h38 : ((c : Int) == 38) = false) (h13 : ((c : Int) == 13) = false) : Calls Tryd.prog 37 #[.int .u8 (c : Int), .bool false] w fun e w' => e = .returned (.string (str [c])) ∧ Below w.heap.size w w' := by
  have es : (convert 46 9 (.slice (some ⟨w.heap.size, 0, none⟩) 1 1)).run Tryd.prog (w.alloc (.cells #[.int .u8 (c : Int)] 5)) = .ok (.string (str [c])) (w.alloc (.cells #[.int .u8 (c : Int)] 5)) := run_str_new w [(c : Int)] 1
  go_enter Tryd.func37, Tryd.ntmps37
  go_wp2
  go_ret
  exact ⟨rfl, (Below.refl _ _).alloc (Nat.le_refl _) _⟩

theorem beq_no {c k : Nat} (h : c ≠ k) : ((c : Int) == (k : Int)) = false := beq_eq_false_iff_ne.2 (by omega)
theorem f37_any (c : Nat) (a : Bool) (w : World) : Calls Tryd.prog 37 #[.int .u8 (c : Int), .bool a] w fun e w' => (∃ bs : ByteArray, e = .returned (.string bs) ∧ bs = str (escL c a)) ∧ Below w.heap.size w w' := by
  have wrap : ∀ l : List Nat, escL c a = l → Calls Tryd.prog 37 #[.int .u8 (c : Int), .bool a] w (fun e w' => e = .returned (.string (str l)) ∧ Below w.heap.size w w') → Calls Tryd.prog 37 #[.int .u8 (c : Int), .bool a] w fun e w' => (∃ bs : ByteArray, e = .returned (.string bs) ∧ bs = str (escL c a)) ∧ Below w.heap.size w w' :=
    fun l hl h => h.mono fun _ _ ⟨he, hb⟩ => ⟨⟨_, he, by rw [hl]⟩, hb⟩
  by_cases h60 : c = 60
  · subst h60; exact wrap [38, 108, 116, 59] (by simp [escL]) (f37_60 a w)
  by_cases h62 : c = 62
  · subst h62; exact wrap [38, 103, 116, 59] (by simp [escL]) (f37_62 a w)
  by_cases h38 : c = 38
  · subst h38; exact wrap [38, 97, 109, 112, 59] (by simp [escL]) (f37_38 a w)
  by_cases h13 : c = 13
  · subst h13; exact wrap [38, 35, 49, 51, 59] (by simp [escL]) (f37_13 a w)
  cases a with
  | false => exact wrap [c] (by simp [escL, h60, h62, h38, h13]) (f37_else_f c w (beq_no h60) (beq_no h62) (beq_no h38) (beq_no h13))
  | true =>
    by_cases h34 : c = 34
    · subst h34; exact wrap [38, 113, 117, 111, 116, 59] (by simp [escL]) (f37_34 w)
    by_cases h9 : c = 9
    · subst h9; exact wrap [38, 35, 57, 59] (by simp [escL]) (f37_9 w)
    by_cases h10 : c = 10
    · subst h10; exact wrap [38, 35, 49, 48, 59] (by simp [escL]) (f37_10 w)
    exact wrap [c] (by simp [escL, h60, h62, h38, h13, h34, h9, h10]) (f37_else_t c w (beq_no h60) (beq_no h62) (beq_no h38) (beq_no h13) (beq_no h34) (beq_no h9) (beq_no h10))

/-- What a text becomes. -/
def escAll (l : List Nat) (a : Bool) : List Nat := l.flatMap fun c => escL c a
theorem escAll_length (l : List Nat) (a : Bool) : (escAll l a).length ≤ 6 * l.length := by
  induction l with
  | nil => simp [escAll]
  | cons z zs ih =>
    have h : escAll (z :: zs) a = escL z a ++ escAll zs a := rfl
    rw [h, List.length_append, List.length_cons]
    have := escL_length z a
    omega
theorem bts_take_succ (s : ByteArray) (k : Nat) (h : k < s.size) : (bts s).take (k + 1) = (bts s).take k ++ [(s[k]'h).toNat] := by
  have hl : k < (bts s).length := by rw [bts_length]; exact h
  rw [List.take_succ_eq_append_getElem hl]
  congr 1
  simp only [List.cons.injEq, and_true]
  rw [byte_eq h]; unfold gb
  rw [List.getD_eq_getElem?_getD, List.getElem?_eq_getElem hl]; rfl
theorem escAll_succ (s : ByteArray) (a : Bool) (k : Nat) (h : k < s.size) : escAll ((bts s).take (k + 1)) a = escAll ((bts s).take k) a ++ escL (s[k]'h).toNat a := by
  rw [bts_take_succ s k h]; simp [escAll]

set_option maxRecDepth 100000 in
set_option maxHeartbeats 1000000 in
theorem f19_any (s : ByteArray) (a : Bool) (hs : s.size ≤ 150000) (w : World) : Calls Tryd.prog 19 #[.string s, .bool a] w fun e w' =>
    ((wrongI s = -1 ∧ e = .returned (.tuple #[.string (str (escAll (bts s) a)), .int .i64 0])) ∨ (0 ≤ wrongI s ∧ e = .returned (.tuple #[.string ⟨#[]⟩, .int .i64 6]))) ∧ Below w.heap.size w w' := by
  obtain ⟨i0, hi, hz0, hz1, hz2⟩ := info_parts Tryd.info5
  rcases wrongI_cases s with hw | hw
  · have hd : decide (wrongI s = -1) = true := decide_eq_true hw
    have HD : Hid _ := Lib.hid hd
    have HW : Hid _ := Lib.hid hw
    clear hd hw
    go_enter Tryd.func19, Tryd.ntmps19
    go_wp2_with (go_at_call 36; refine (f36_any s (by omega) _).mono ?_; rintro e w0 ⟨rfl, hb0⟩; rw [HD.out])
    go_loopw [6, 7] (fun v i wr => ∃ k : Nat, k ≤ s.size ∧ i = .int .i64 k ∧ wr.ownsRow w.heap.size 5 1 v (u8s (escAll ((bts s).take k) a)).length (u8s (escAll ((bts s).take k) a)) ∧ Below w.heap.size w wr) (fun _ i _ => s.size - (intOf i).toNat)
    case atStart => exact ⟨0, Nat.zero_le _, rfl, ⟨rfl, .inl ⟨rfl, rfl⟩⟩, hb0⟩
    case round =>
      obtain ⟨k, hk, rfl, hown, hB⟩ := hrel
      by_cases hlt : k < s.size
      · have hel : (u8s (escAll ((bts s).take k) a)).length ≤ 1000000 := by
          rw [u8s_length]; have := escAll_length ((bts s).take k) a; rw [List.length_take, bts_length] at this; omega
        have hes : Hid (escAll ((bts s).take (k + 1)) a = escAll ((bts s).take k) a ++ escL (s[k]'hlt).toNat a) := Lib.hid (escAll_succ s a k hlt)
        have hby := bts_take_succ s k hlt
        clear hby
        go_wp2_with (first
          | (go_at_call 37; refine (f37_any _ _ _).mono ?_; rintro e w3 ⟨⟨bs, rfl, hbs⟩, hb3⟩; have hown3 := own_below hown hb3; have hbl : bs.size ≤ 6 := (by rw [hbs, str_size]; exact escL_length _ _); have HB : Hid _ := Lib.hid hbs; clear hbs)
          | (at_builtin; go_must (refine Lib.wpList_append_own_string _ rfl _ _ 46 9 rfl w.heap.size 5 i0 Tryd.underlying46 Tryd.underlying9 hi hz0 hz1 hz2 _ (u8s (escAll ((bts s).take k) a)).length (u8s (escAll ((bts s).take k) a)) rfl hown3 _ rfl (by unfold maxLen; omega) (by omega) (Nat.le_trans hB.size hb3.size) ?_); intro v' w2 hown2 hg2 _))
        go_roundw
        case rel =>
          refine ⟨k + 1, by omega, by simp, ?_, (hB.trans (hb3.mono hB.size)).grown hg2 (Nat.le_trans hB.size hb3.size) (fun j e => (Nat.lt_or_ge j w.heap.size).elim (fun hj => absurd e.symm (row_ge hown3 j hj)) id)⟩
          have e1 : Lib.strCells bs = u8s (escL (s[k]'hlt).toNat a) := by rw [HB.out]; exact strCells_str _ (escL_lt _ _ (s[k]'hlt).toNat_lt)
          have e2 : bs.size = (escL (s[k]'hlt).toNat a).length := by rw [HB.out, str_size]
          rw [hes.out, u8s_append, List.length_append, u8s_length (escL _ _), ← e1, ← e2]
          exact hown2
        case measure => simp [intOf]; omega
      · have hke : (bts s).take k = bts s := List.take_of_length_le (by rw [bts_length]; omega)
        rw [hke] at hown
        have hown' := hown
        rw [u8s_i] at hown'
        have hcv := run_str_own hown'
        rw [strI_nat] at hcv
        clear hke hown'
        go_wp2
        go_ret2
        go_light
        exact ⟨.inl ⟨HW.out, rfl⟩, hB⟩
  · have hd : decide (wrongI s = -1) = false := decide_eq_false (by omega)
    have HD : Hid _ := Lib.hid hd
    have HW : Hid _ := Lib.hid hw
    clear hd hw
    go_enter Tryd.func19, Tryd.ntmps19
    go_wp2_with (go_at_call 36; refine (f36_any s (by omega) _).mono ?_; rintro e w0 ⟨rfl, hb0⟩; rw [HD.out])
    go_ret2
    go_light
    exact ⟨.inr ⟨HW.out, rfl⟩, hb0⟩
end Go.Proofs.YtllnfiidmpopkaaDoor
