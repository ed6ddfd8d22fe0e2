/-
  Part 12 of the proof: what functions return, and plain facts (Pcheck). Conditions: each theorem names its own.
-/
import Derived.Test.YthoojcdjjecogaaGreatDoorG09
import Derived.Test.YthoojcdjjecogaaGreatDoorG10
set_option maxRecDepth 1000000
set_option maxHeartbeats 16000000
namespace Go.Proofs.YthoojcdjjecogaaGreatDoor
open Go Go.RowKit

theorem last_bts {s : ByteArray} {L : Nat} (hL : s.size = L + 1) (hLt : L < s.size) : (bts s).getLast? = some (s[L]'hLt).toNat := by
 rw [List.getLast?_eq_getElem?, bts_length, hL, Nat.add_sub_cancel, List.getElem?_eq_getElem (by rw [bts_length]; exact hLt), bts_get s L hLt]
theorem pck_only_no (n : Bool) (s : ByteArray) (S : Int) (hs : s.size <= 9223372036854775807) (w : World) (ho : onlyB s = false) : Calls Tryz.prog 34 #[.agg #[.bool n, .string s, .int .i64 S]] w fun e w' => e = .returned (.int .i64 2) /\ Below w.heap.size w w' := by
 have C : Hid _ := Lib.hid (ponly_any s hs)
 have HO : Hid _ := Lib.hid ho
 clear ho
 go_enter Tryz.func34, Tryz.ntmps34
 go_wp2_with (go_at_call 70; refine (C.out _).mono ?_; rintro e w1 ⟨rfl, rfl⟩; rw [HO.out])
 go_ret
 go_light
 exact ⟨rfl, (Below.refl _ _).alloc (Nat.le_refl _) _⟩
theorem pck_long (n : Bool) (s : ByteArray) (S : Int) (hs : s.size <= 9223372036854775807) (w : World) (ho : onlyB s = true) (d1 : decide ((s.size : Int) <= 60) = false) : Calls Tryz.prog 34 #[.agg #[.bool n, .string s, .int .i64 S]] w fun e w' => e = .returned (.int .i64 2) /\ Below w.heap.size w w' := by
 have C : Hid _ := Lib.hid (ponly_any s hs)
 have HO : Hid _ := Lib.hid ho
 clear ho
 go_enter Tryz.func34, Tryz.ntmps34
 go_wp2_with (go_at_call 70; refine (C.out _).mono ?_; rintro e w1 ⟨rfl, rfl⟩; rw [HO.out])
 go_ret
 go_light
 exact ⟨rfl, (Below.refl _ _).alloc (Nat.le_refl _) _⟩
theorem pck_neg (n : Bool) (s : ByteArray) (S : Int) (hs : s.size <= 9223372036854775807) (w : World) (ho : onlyB s = true) (d1 : decide ((s.size : Int) <= 60) = true) (d2 : decide (0 <= S) = false) : Calls Tryz.prog 34 #[.agg #[.bool n, .string s, .int .i64 S]] w fun e w' => e = .returned (.int .i64 2) /\ Below w.heap.size w w' := by
 have C : Hid _ := Lib.hid (ponly_any s hs)
 have HO : Hid _ := Lib.hid ho
 clear ho
 go_enter Tryz.func34, Tryz.ntmps34
 go_wp2_with (go_at_call 70; refine (C.out _).mono ?_; rintro e w1 ⟨rfl, rfl⟩; rw [HO.out])
 go_ret
 go_light
 exact ⟨rfl, (Below.refl _ _).alloc (Nat.le_refl _) _⟩
theorem pck_wide (n : Bool) (s : ByteArray) (S : Int) (hs : s.size <= 9223372036854775807) (w : World) (ho : onlyB s = true) (d1 : decide ((s.size : Int) <= 60) = true) (d2 : decide (0 <= S) = true) (d3 : decide (S <= 60) = false) : Calls Tryz.prog 34 #[.agg #[.bool n, .string s, .int .i64 S]] w fun e w' => e = .returned (.int .i64 2) /\ Below w.heap.size w w' := by
 have C : Hid _ := Lib.hid (ponly_any s hs)
 have HO : Hid _ := Lib.hid ho
 clear ho
 go_enter Tryz.func34, Tryz.ntmps34
 go_wp2_with (go_at_call 70; refine (C.out _).mono ?_; rintro e w1 ⟨rfl, rfl⟩; rw [HO.out])
 go_ret
 go_light
 exact ⟨rfl, (Below.refl _ _).alloc (Nat.le_refl _) _⟩
theorem pck_zero_neg (n : Bool) (s : ByteArray) (S : Int) (hs : s.size <= 9223372036854775807) (w : World) (ho : onlyB s = true) (d1 : decide ((s.size : Int) <= 60) = true) (d2 : decide (0 <= S) = true) (d3 : decide (S <= 60) = true) (q : (s.toList == [48]) = true) (hn : n = true) : Calls Tryz.prog 34 #[.agg #[.bool n, .string s, .int .i64 S]] w fun e w' => e = .returned (.int .i64 2) /\ Below w.heap.size w w' := by
 subst hn
 have C : Hid _ := Lib.hid (ponly_any s hs)
 have HO : Hid _ := Lib.hid ho
 clear ho
 go_enter Tryz.func34, Tryz.ntmps34
 go_wp2_with (go_at_call 70; refine (C.out _).mono ?_; rintro e w1 ⟨rfl, rfl⟩; rw [HO.out])
 go_ret
 go_light
 exact ⟨rfl, (Below.refl _ _).alloc (Nat.le_refl _) _⟩
theorem pck_zero_scale (n : Bool) (s : ByteArray) (S : Int) (hs : s.size <= 9223372036854775807) (w : World) (ho : onlyB s = true) (d1 : decide ((s.size : Int) <= 60) = true) (d2 : decide (0 <= S) = true) (d3 : decide (S <= 60) = true) (q : (s.toList == [48]) = true) (hn : n = false) (d4 : (S == 0) = false) : Calls Tryz.prog 34 #[.agg #[.bool n, .string s, .int .i64 S]] w fun e w' => e = .returned (.int .i64 2) /\ Below w.heap.size w w' := by
 subst hn
 have C : Hid _ := Lib.hid (ponly_any s hs)
 have HO : Hid _ := Lib.hid ho
 clear ho
 go_enter Tryz.func34, Tryz.ntmps34
 go_wp2_with (go_at_call 70; refine (C.out _).mono ?_; rintro e w1 ⟨rfl, rfl⟩; rw [HO.out])
 go_ret
 go_light
 exact ⟨rfl, (Below.refl _ _).alloc (Nat.le_refl _) _⟩
theorem pck_zero_ok (n : Bool) (s : ByteArray) (S : Int) (hs : s.size <= 9223372036854775807) (w : World) (ho : onlyB s = true) (d1 : decide ((s.size : Int) <= 60) = true) (d2 : decide (0 <= S) = true) (d3 : decide (S <= 60) = true) (q : (s.toList == [48]) = true) (hn : n = false) (hS : S = 0) : Calls Tryz.prog 34 #[.agg #[.bool n, .string s, .int .i64 S]] w fun e w' => e = .returned (.int .i64 0) /\ Below w.heap.size w w' := by
 subst hn
 subst hS
 have C : Hid _ := Lib.hid (ponly_any s hs)
 have HO : Hid _ := Lib.hid ho
 clear ho
 go_enter Tryz.func34, Tryz.ntmps34
 go_wp2_with (go_at_call 70; refine (C.out _).mono ?_; rintro e w1 ⟨rfl, rfl⟩; rw [HO.out])
 go_ret
 go_light
 exact ⟨rfl, (Below.refl _ _).alloc (Nat.le_refl _) _⟩
theorem pck_first (n : Bool) (s : ByteArray) (S : Int) (hs : s.size <= 9223372036854775807) (w : World) (ho : onlyB s = true) (d1 : decide ((s.size : Int) <= 60) = true) (d2 : decide (0 <= S) = true) (d3 : decide (S <= 60) = true) (q : (s.toList == [48]) = false) (hp : 0 < s.size) (h0 : (s[0]'hp).toNat = 48) : Calls Tryz.prog 34 #[.agg #[.bool n, .string s, .int .i64 S]] w fun e w' => e = .returned (.int .i64 2) /\ Below w.heap.size w w' := by
 have C : Hid _ := Lib.hid (ponly_any s hs)
 have HO : Hid _ := Lib.hid ho
 clear ho
 go_enter Tryz.func34, Tryz.ntmps34
 go_wp2_with (go_at_call 70; refine (C.out _).mono ?_; rintro e w1 ⟨rfl, rfl⟩; rw [HO.out])
 go_ret
 go_light
 exact ⟨rfl, (Below.refl _ _).alloc (Nat.le_refl _) _⟩
theorem pck_whole (n : Bool) (s : ByteArray) (S : Int) (hs : s.size <= 9223372036854775807) (w : World) (ho : onlyB s = true) (d1 : decide ((s.size : Int) <= 60) = true) (d2 : decide (0 <= S) = true) (d3 : decide (S <= 60) = true) (q : (s.toList == [48]) = false) (hp : 0 < s.size) (c : Nat) (h0 : (s[0]'hp).toNat = c) (dc : ((c : Int) != 48) = true) (hS : S = 0) : Calls Tryz.prog 34 #[.agg #[.bool n, .string s, .int .i64 S]] w fun e w' => e = .returned (.int .i64 0) /\ Below w.heap.size w w' := by
 subst hS
 have C : Hid _ := Lib.hid (ponly_any s hs)
 have HO : Hid _ := Lib.hid ho
 clear ho
 go_enter Tryz.func34, Tryz.ntmps34
 go_wp2_with (go_at_call 70; refine (C.out _).mono ?_; rintro e w1 ⟨rfl, rfl⟩; rw [HO.out])
 go_ret
 go_light
 exact ⟨rfl, (Below.refl _ _).alloc (Nat.le_refl _) _⟩
theorem pck_last (n : Bool) (s : ByteArray) (S : Int) (hs : s.size <= 9223372036854775807) (w : World) (ho : onlyB s = true) (d1 : decide ((s.size : Int) <= 60) = true) (d2 : decide (0 <= S) = true) (d3 : decide (S <= 60) = true) (q : (s.toList == [48]) = false) (hp : 0 < s.size) (c : Nat) (h0 : (s[0]'hp).toNat = c) (dc : ((c : Int) != 48) = true) (d4 : (S == 0) = false) (hl : decide ((bts s).getLast? = some 48) = true) : Calls Tryz.prog 34 #[.agg #[.bool n, .string s, .int .i64 S]] w fun e w' => e = .returned (.int .i64 2) /\ Below w.heap.size w w' := by
 have C : Hid _ := Lib.hid (ponly_any s hs)
 have CS : Hid _ := Lib.hid (suff_any s (by have := of_decide_eq_true d1; omega) _ hl)
 clear hl
 have HO : Hid _ := Lib.hid ho
 clear ho
 go_enter Tryz.func34, Tryz.ntmps34
 go_wp2_with (first | (go_at_call 70; refine (C.out _).mono ?_; rintro e w1 ⟨rfl, rfl⟩; rw [HO.out]) | (go_at_call 71; refine (CS.out _).mono ?_; rintro e w2 ⟨rfl, rfl⟩))
 go_ret
 go_light
 exact ⟨rfl, (Below.refl _ _).alloc (Nat.le_refl _) _⟩
theorem pck_good (n : Bool) (s : ByteArray) (S : Int) (hs : s.size <= 9223372036854775807) (w : World) (ho : onlyB s = true) (d1 : decide ((s.size : Int) <= 60) = true) (d2 : decide (0 <= S) = true) (d3 : decide (S <= 60) = true) (q : (s.toList == [48]) = false) (hp : 0 < s.size) (c : Nat) (h0 : (s[0]'hp).toNat = c) (dc : ((c : Int) != 48) = true) (d4 : (S == 0) = false) (hl : decide ((bts s).getLast? = some 48) = false) : Calls Tryz.prog 34 #[.agg #[.bool n, .string s, .int .i64 S]] w fun e w' => e = .returned (.int .i64 0) /\ Below w.heap.size w w' := by
 have C : Hid _ := Lib.hid (ponly_any s hs)
 have CS : Hid _ := Lib.hid (suff_any s (by have := of_decide_eq_true d1; omega) _ hl)
 clear hl
 have HO : Hid _ := Lib.hid ho
 clear ho
 go_enter Tryz.func34, Tryz.ntmps34
 go_wp2_with (first | (go_at_call 70; refine (C.out _).mono ?_; rintro e w1 ⟨rfl, rfl⟩; rw [HO.out]) | (go_at_call 71; refine (CS.out _).mono ?_; rintro e w2 ⟨rfl, rfl⟩))
 go_ret
 go_light
 exact ⟨rfl, (Below.refl _ _).alloc (Nat.le_refl _) _⟩
theorem pcheck_any (n : Bool) (s : ByteArray) (S : Int) (hs : s.size <= 9223372036854775807) (w : World) : Calls Tryz.prog 34 #[.agg #[.bool n, .string s, .int .i64 S]] w fun e w' => e = .returned (.int .i64 (ckI n s S)) /\ Below w.heap.size w w' := by
 have T : ∀ {p : Prop} [Decidable p], p -> decide p = true := fun h => decide_eq_true h
 have N : ∀ {p : Prop} [Decidable p], ¬ p -> decide p = false := fun h => decide_eq_false h
 have Z : ∀ {x : Int}, x ≠ 0 -> (x == 0) = false := fun h => beq_eq_false_iff_ne.2 h
 exact ck_ways (F := fun r => Calls Tryz.prog 34 #[.agg #[.bool n, .string s, .int .i64 S]] w fun e w' => e = .returned (.int .i64 r) /\ Below w.heap.size w w') n s S
  (fun ho => pck_only_no n s S hs w ho) (fun ho d => pck_long n s S hs w ho (N (by have := of_decide_eq_true d; omega)))
  (fun ho h1 h2 => pck_neg n s S hs w ho (T (by omega)) (N (by omega)))
  (fun ho h1 h2 h3 => pck_wide n s S hs w ho (T (by omega)) (T h2) (N (by omega)))
  (fun ho h1 h2 h3 q hn => pck_zero_neg n s S hs w ho (T (by omega)) (T h2) (T h3) q hn)
  (fun ho h1 h2 h3 q hn h0 => pck_zero_scale n s S hs w ho (T (by omega)) (T h2) (T h3) q hn (Z h0))
  (fun ho h1 h2 h3 q hn h0 => pck_zero_ok n s S hs w ho (T (by omega)) (T h2) (T h3) q hn h0)
  (fun ho h1 h2 h3 q hp hc => pck_first n s S hs w ho (T (by omega)) (T h2) (T h3) q hp hc)
  (fun ho h1 h2 h3 q hp c hc h48 h0 => pck_whole n s S hs w ho (T (by omega)) (T h2) (T h3) q hp c hc (bne_iff_ne.2 (by omega)) h0)
  (fun ho h1 h2 h3 q hp c hc h48 L hL hLt hl => pck_last n s S hs w ho (T (by omega)) (T (by omega)) (T h3) q hp c hc (bne_iff_ne.2 (by omega)) (Z (by omega)) (by rw [last_bts hL hLt, hl]; rfl))
  (fun ho h1 h2 h3 q hp c hc h48 L hL hLt b hb hb48 => pck_good n s S hs w ho (T (by omega)) (T (by omega)) (T h3) q hp c hc (bne_iff_ne.2 (by omega)) (Z (by omega)) (by rw [last_bts hL hLt, hb]; exact N (by simpa using hb48)))
end Go.Proofs.YthoojcdjjecogaaGreatDoor
