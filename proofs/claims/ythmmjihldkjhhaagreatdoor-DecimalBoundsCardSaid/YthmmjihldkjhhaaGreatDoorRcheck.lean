/-
  What Check of the reference returns. Condition: the string's size.
-/
import Derived.Test.YthmmjihldkjhhaaGreatDoorRmade
namespace Go.Proofs.YthmmjihldkjhhaaGreatDoor
open Go Go.RowKit

set_option maxRecDepth 100000 in
set_option maxHeartbeats 1000000 in
theorem rck_only_no (n : Bool) (s : ByteArray) (S : Int) (hs : s.size ≤ 1000000) (w : World) (ho : onlyB s = false) : Calls Tryz.prog 14 #[.agg #[.bool n, .string s, .int .i64 S]] w fun e w' => e = .returned (.int .i64 2) ∧ Below w.heap.size w w' := by
  have C : Hid _ := Lib.hid (rdigits_any s hs)
  have HO : Hid _ := Lib.hid ho
  clear ho
  go_enter Tryz.func14, Tryz.ntmps14
  go_wp2_with (go_at_call 41; refine (C.out _).mono ?_; rintro e w1 ⟨rfl, rfl⟩; rw [HO.out])
  go_ret
  go_light
  exact ⟨rfl, (Below.refl _ _).alloc (Nat.le_refl _) _⟩
set_option maxRecDepth 100000 in
set_option maxHeartbeats 1000000 in
theorem rck_long (n : Bool) (s : ByteArray) (S : Int) (hs : s.size ≤ 1000000) (w : World) (ho : onlyB s = true) (d1 : decide (60 < (s.size : Int)) = true) : Calls Tryz.prog 14 #[.agg #[.bool n, .string s, .int .i64 S]] w fun e w' => e = .returned (.int .i64 2) ∧ Below w.heap.size w w' := by
  have C : Hid _ := Lib.hid (rdigits_any s hs)
  have HO : Hid _ := Lib.hid ho
  clear ho
  go_enter Tryz.func14, Tryz.ntmps14
  go_wp2_with (go_at_call 41; refine (C.out _).mono ?_; rintro e w1 ⟨rfl, rfl⟩; rw [HO.out])
  go_ret
  go_light
  exact ⟨rfl, (Below.refl _ _).alloc (Nat.le_refl _) _⟩
set_option maxRecDepth 100000 in
set_option maxHeartbeats 1000000 in
theorem rck_neg (n : Bool) (s : ByteArray) (S : Int) (hs : s.size ≤ 1000000) (w : World) (ho : onlyB s = true) (d1 : decide (60 < (s.size : Int)) = false) (d2 : decide (S < 0) = true) : Calls Tryz.prog 14 #[.agg #[.bool n, .string s, .int .i64 S]] w fun e w' => e = .returned (.int .i64 2) ∧ Below w.heap.size w w' := by
  have C : Hid _ := Lib.hid (rdigits_any s hs)
  have HO : Hid _ := Lib.hid ho
  clear ho
  go_enter Tryz.func14, Tryz.ntmps14
  go_wp2_with (go_at_call 41; refine (C.out _).mono ?_; rintro e w1 ⟨rfl, rfl⟩; rw [HO.out])
  go_ret
  go_light
  exact ⟨rfl, (Below.refl _ _).alloc (Nat.le_refl _) _⟩
set_option maxRecDepth 100000 in
set_option maxHeartbeats 1000000 in
theorem rck_wide (n : Bool) (s : ByteArray) (S : Int) (hs : s.size ≤ 1000000) (w : World) (ho : onlyB s = true) (d1 : decide (60 < (s.size : Int)) = false) (d2 : decide (S < 0) = false) (d3 : decide (60 < S) = true) : Calls Tryz.prog 14 #[.agg #[.bool n, .string s, .int .i64 S]] w fun e w' => e = .returned (.int .i64 2) ∧ Below w.heap.size w w' := by
  have C : Hid _ := Lib.hid (rdigits_any s hs)
  have HO : Hid _ := Lib.hid ho
  clear ho
  go_enter Tryz.func14, Tryz.ntmps14
  go_wp2_with (go_at_call 41; refine (C.out _).mono ?_; rintro e w1 ⟨rfl, rfl⟩; rw [HO.out])
  go_ret
  go_light
  exact ⟨rfl, (Below.refl _ _).alloc (Nat.le_refl _) _⟩
set_option maxRecDepth 100000 in
set_option maxHeartbeats 1000000 in
theorem rck_zero_neg (n : Bool) (s : ByteArray) (S : Int) (hs : s.size ≤ 1000000) (w : World) (ho : onlyB s = true) (d1 : decide (60 < (s.size : Int)) = false) (d2 : decide (S < 0) = false) (d3 : decide (60 < S) = false) (q : (s.toList == [48]) = true) (hn : n = true) : Calls Tryz.prog 14 #[.agg #[.bool n, .string s, .int .i64 S]] w fun e w' => e = .returned (.int .i64 2) ∧ Below w.heap.size w w' := by
  subst hn
  have C : Hid _ := Lib.hid (rdigits_any s hs)
  have HO : Hid _ := Lib.hid ho
  clear ho
  go_enter Tryz.func14, Tryz.ntmps14
  go_wp2_with (go_at_call 41; refine (C.out _).mono ?_; rintro e w1 ⟨rfl, rfl⟩; rw [HO.out])
  go_ret
  go_light
  exact ⟨rfl, (Below.refl _ _).alloc (Nat.le_refl _) _⟩
set_option maxRecDepth 100000 in
set_option maxHeartbeats 1000000 in
theorem rck_zero_scale (n : Bool) (s : ByteArray) (S : Int) (hs : s.size ≤ 1000000) (w : World) (ho : onlyB s = true) (d1 : decide (60 < (s.size : Int)) = false) (d2 : decide (S < 0) = false) (d3 : decide (60 < S) = false) (q : (s.toList == [48]) = true) (hn : n = false) (d4 : (S != 0) = true) : Calls Tryz.prog 14 #[.agg #[.bool n, .string s, .int .i64 S]] w fun e w' => e = .returned (.int .i64 2) ∧ Below w.heap.size w w' := by
  subst hn
  have C : Hid _ := Lib.hid (rdigits_any s hs)
  have HO : Hid _ := Lib.hid ho
  clear ho
  go_enter Tryz.func14, Tryz.ntmps14
  go_wp2_with (go_at_call 41; refine (C.out _).mono ?_; rintro e w1 ⟨rfl, rfl⟩; rw [HO.out])
  go_ret
  go_light
  exact ⟨rfl, (Below.refl _ _).alloc (Nat.le_refl _) _⟩
set_option maxRecDepth 100000 in
set_option maxHeartbeats 1000000 in
theorem rck_zero_ok (n : Bool) (s : ByteArray) (S : Int) (hs : s.size ≤ 1000000) (w : World) (ho : onlyB s = true) (d1 : decide (60 < (s.size : Int)) = false) (d2 : decide (S < 0) = false) (d3 : decide (60 < S) = false) (q : (s.toList == [48]) = true) (hn : n = false) (hS : S = 0) : Calls Tryz.prog 14 #[.agg #[.bool n, .string s, .int .i64 S]] w fun e w' => e = .returned (.int .i64 0) ∧ Below w.heap.size w w' := by
  subst hn
  subst hS
  have C : Hid _ := Lib.hid (rdigits_any s hs)
  have HO : Hid _ := Lib.hid ho
  clear ho
  go_enter Tryz.func14, Tryz.ntmps14
  go_wp2_with (go_at_call 41; refine (C.out _).mono ?_; rintro e w1 ⟨rfl, rfl⟩; rw [HO.out])
  go_ret
  go_light
  exact ⟨rfl, (Below.refl _ _).alloc (Nat.le_refl _) _⟩
set_option maxRecDepth 100000 in
set_option maxHeartbeats 1000000 in
theorem rck_first (n : Bool) (s : ByteArray) (S : Int) (hs : s.size ≤ 1000000) (w : World) (ho : onlyB s = true) (d1 : decide (60 < (s.size : Int)) = false) (d2 : decide (S < 0) = false) (d3 : decide (60 < S) = false) (q : (s.toList == [48]) = false) (hp : 0 < s.size) (h0 : (s[0]'hp).toNat = 48) : Calls Tryz.prog 14 #[.agg #[.bool n, .string s, .int .i64 S]] w fun e w' => e = .returned (.int .i64 2) ∧ Below w.heap.size w w' := by
  have C : Hid _ := Lib.hid (rdigits_any s hs)
  have HO : Hid _ := Lib.hid ho
  clear ho
  go_enter Tryz.func14, Tryz.ntmps14
  go_wp2_with (go_at_call 41; refine (C.out _).mono ?_; rintro e w1 ⟨rfl, rfl⟩; rw [HO.out])
  go_ret
  go_light
  exact ⟨rfl, (Below.refl _ _).alloc (Nat.le_refl _) _⟩
set_option maxRecDepth 100000 in
set_option maxHeartbeats 1000000 in
theorem rck_whole (n : Bool) (s : ByteArray) (S : Int) (hs : s.size ≤ 1000000) (w : World) (ho : onlyB s = true) (d1 : decide (60 < (s.size : Int)) = false) (d2 : decide (S < 0) = false) (d3 : decide (60 < S) = false) (q : (s.toList == [48]) = false) (hp : 0 < s.size) (c : Nat) (h0 : (s[0]'hp).toNat = c) (dc : ((c : Int) == 48) = false) (hS : S = 0) : Calls Tryz.prog 14 #[.agg #[.bool n, .string s, .int .i64 S]] w fun e w' => e = .returned (.int .i64 0) ∧ Below w.heap.size w w' := by
  subst hS
  have C : Hid _ := Lib.hid (rdigits_any s hs)
  have HO : Hid _ := Lib.hid ho
  clear ho
  go_enter Tryz.func14, Tryz.ntmps14
  go_wp2_with (go_at_call 41; refine (C.out _).mono ?_; rintro e w1 ⟨rfl, rfl⟩; rw [HO.out])
  go_ret
  go_light
  exact ⟨rfl, (Below.refl _ _).alloc (Nat.le_refl _) _⟩
set_option maxRecDepth 100000 in
set_option maxHeartbeats 1000000 in
theorem rck_last (n : Bool) (s : ByteArray) (S : Int) (hs : s.size ≤ 1000000) (w : World) (L : Nat) (hL : s.size = L + 1) (hL2 : L ≤ 400) (ho : onlyB s = true) (d1 : decide (60 < ((L : Int) + 1)) = false) (d2 : decide (S < 0) = false) (d3 : decide (60 < S) = false) (q : (s.toList == [48]) = false) (hp : 0 < s.size) (c : Nat) (h0 : (s[0]'hp).toNat = c) (dc : ((c : Int) == 48) = false) (d4 : decide (0 < S) = true) (hLt : L < s.size) (hl : (s[L]'hLt).toNat = 48) : Calls Tryz.prog 14 #[.agg #[.bool n, .string s, .int .i64 S]] w fun e w' => e = .returned (.int .i64 2) ∧ Below w.heap.size w w' := by
  have C : Hid _ := Lib.hid (rdigits_any s hs)
  have HO : Hid _ := Lib.hid ho
  clear ho
  go_enter Tryz.func14, Tryz.ntmps14
  go_wp2_with (go_at_call 41; refine (C.out _).mono ?_; rintro e w1 ⟨rfl, rfl⟩; rw [HO.out])
  go_ret
  go_light
  exact ⟨rfl, (Below.refl _ _).alloc (Nat.le_refl _) _⟩
set_option maxRecDepth 100000 in
set_option maxHeartbeats 1000000 in
theorem rck_good (n : Bool) (s : ByteArray) (S : Int) (hs : s.size ≤ 1000000) (w : World) (L : Nat) (hL : s.size = L + 1) (hL2 : L ≤ 400) (ho : onlyB s = true) (d1 : decide (60 < ((L : Int) + 1)) = false) (d2 : decide (S < 0) = false) (d3 : decide (60 < S) = false) (q : (s.toList == [48]) = false) (hp : 0 < s.size) (c : Nat) (h0 : (s[0]'hp).toNat = c) (dc : ((c : Int) == 48) = false) (d4 : decide (0 < S) = true) (hLt : L < s.size) (b : Nat) (hl : (s[L]'hLt).toNat = b) (db : ((b : Int) == 48) = false) : Calls Tryz.prog 14 #[.agg #[.bool n, .string s, .int .i64 S]] w fun e w' => e = .returned (.int .i64 0) ∧ Below w.heap.size w w' := by
  have C : Hid _ := Lib.hid (rdigits_any s hs)
  have HO : Hid _ := Lib.hid ho
  clear ho
  go_enter Tryz.func14, Tryz.ntmps14
  go_wp2_with (go_at_call 41; refine (C.out _).mono ?_; rintro e w1 ⟨rfl, rfl⟩; rw [HO.out])
  go_ret
  go_light
  exact ⟨rfl, (Below.refl _ _).alloc (Nat.le_refl _) _⟩
/-- Is a decimal valid? -/
def okB (n : Bool) (s : ByteArray) (S : Int) : Bool :=
  onlyB s && decide (s.size ≤ 60) && decide (0 ≤ S) && decide (S ≤ 60) && (if bts s = [48] then !n && decide (S = 0) else !decide ((bts s).head? = some 48) && (decide (S = 0) || !decide ((bts s).getLast? = some 48)))
/-- What Check returns. -/
def ckI (n : Bool) (s : ByteArray) (S : Int) : Int := if okB n s S then 0 else 2
theorem ck_yes {n : Bool} {s : ByteArray} {S : Int} (h : okB n s S = true) : ckI n s S = 0 := by unfold ckI; rw [if_pos h]
theorem ck_no {n : Bool} {s : ByteArray} {S : Int} (h : okB n s S = false) : ckI n s S = 2 := by unfold ckI; rw [if_neg (by rw [h]; decide)]
/-- The ways of Check, as both walks want them. -/
theorem ck_ways {F : Int → Prop} (n : Bool) (s : ByteArray) (S : Int)
    (only_no : onlyB s = false → F 2)
    (long : onlyB s = true → decide (60 < (s.size : Int)) = true → F 2)
    (neg : onlyB s = true → s.size ≤ 60 → S < 0 → F 2)
    (wide : onlyB s = true → s.size ≤ 60 → 0 ≤ S → 60 < S → F 2)
    (zero_neg : onlyB s = true → s.size ≤ 60 → 0 ≤ S → S ≤ 60 → (s.toList == [48]) = true → n = true → F 2)
    (zero_scale : onlyB s = true → s.size ≤ 60 → 0 ≤ S → S ≤ 60 → (s.toList == [48]) = true → n = false → S ≠ 0 → F 2)
    (zero_ok : onlyB s = true → s.size ≤ 60 → 0 ≤ S → S ≤ 60 → (s.toList == [48]) = true → n = false → S = 0 → F 0)
    (first : onlyB s = true → s.size ≤ 60 → 0 ≤ S → S ≤ 60 → (s.toList == [48]) = false → ∀ hp : 0 < s.size, (s[0]'hp).toNat = 48 → F 2)
    (whole : onlyB s = true → s.size ≤ 60 → 0 ≤ S → S ≤ 60 → (s.toList == [48]) = false → ∀ hp : 0 < s.size, ∀ c : Nat, (s[0]'hp).toNat = c → c ≠ 48 → S = 0 → F 0)
    (last : onlyB s = true → s.size ≤ 60 → 0 < S → S ≤ 60 → (s.toList == [48]) = false → ∀ hp : 0 < s.size, ∀ c : Nat, (s[0]'hp).toNat = c → c ≠ 48 → ∀ L : Nat, s.size = L + 1 → ∀ hL : L < s.size, (s[L]'hL).toNat = 48 → F 2)
    (good : onlyB s = true → s.size ≤ 60 → 0 < S → S ≤ 60 → (s.toList == [48]) = false → ∀ hp : 0 < s.size, ∀ c : Nat, (s[0]'hp).toNat = c → c ≠ 48 → ∀ L : Nat, s.size = L + 1 → ∀ hL : L < s.size, ∀ b : Nat, (s[L]'hL).toNat = b → b ≠ 48 → F 0) : F (ckI n s S) := by
  have no : okB n s S = false → F 2 → F (ckI n s S) := fun h f => by rw [ck_no h]; exact f
  have yes : okB n s S = true → F 0 → F (ckI n s S) := fun h f => by rw [ck_yes h]; exact f
  cases ho : onlyB s with
  | false => exact no (by unfold okB; rw [ho]; rfl) (only_no ho)
  | true =>
    by_cases h60 : 60 < s.size
    · exact no (by unfold okB; rw [decide_eq_false (by omega : ¬ s.size ≤ 60)]; simp) (long ho (decide_eq_true (by omega)))
    · by_cases hS : S < 0
      · exact no (by unfold okB; rw [decide_eq_false (by omega : ¬ 0 ≤ S)]; simp) (neg ho (by omega) hS)
      · by_cases hW : 60 < S
        · exact no (by unfold okB; rw [decide_eq_false (by omega : ¬ S ≤ 60)]; simp) (wide ho (by omega) (by omega) hW)
        · have pre : okB n s S = (if bts s = [48] then !n && decide (S = 0) else !decide ((bts s).head? = some 48) && (decide (S = 0) || !decide ((bts s).getLast? = some 48))) := by
            unfold okB
            rw [ho, decide_eq_true (by omega : s.size ≤ 60), decide_eq_true (by omega : 0 ≤ S), decide_eq_true (by omega : S ≤ 60)]; rfl
          have hne : s.size ≠ 0 := by intro h; unfold onlyB at ho; rw [decide_eq_false (by omega : ¬ s.size ≠ 0), Bool.and_false] at ho; cases ho
          have hp : 0 < s.size := Nat.pos_of_ne_zero hne
          by_cases hq : bts s = [48]
          · rw [if_pos hq] at pre
            have q : (s.toList == [48]) = true := by rw [word_beq, hq]; rfl
            cases n with
            | true => exact no (by rw [pre]; rfl) (zero_neg ho (by omega) (by omega) (by omega) q rfl)
            | false =>
              by_cases h0 : S = 0
              · exact yes (by rw [pre, h0]; rfl) (zero_ok ho (by omega) (by omega) (by omega) q rfl h0)
              · exact no (by rw [pre, decide_eq_false h0]; rfl) (zero_scale ho (by omega) (by omega) (by omega) q rfl h0)
          · rw [if_neg hq] at pre
            have q : (s.toList == [48]) = false := by rw [word_beq]; exact decide_eq_false hq
            have hh : (bts s).head? = some (s[0]'hp).toNat := by
              rw [List.head?_eq_getElem?, List.getElem?_eq_getElem (by rw [bts_length]; exact hp), bts_get s 0 hp]
            obtain ⟨c, hc⟩ : ∃ c, (s[0]'hp).toNat = c := ⟨_, rfl⟩
            rw [hh, hc] at pre
            by_cases hc48 : c = 48
            · exact no (by rw [pre, hc48]; rfl) (first ho (by omega) (by omega) (by omega) q hp (by rw [hc, hc48]))
            · have dc : decide (some c = some 48) = false := decide_eq_false (by simpa using hc48)
              rw [dc] at pre
              by_cases h0 : S = 0
              · exact yes (by rw [pre, decide_eq_true h0]; rfl) (whole ho (by omega) (by omega) (by omega) q hp c hc hc48 h0)
              · obtain ⟨L, hL⟩ : ∃ L, s.size = L + 1 := ⟨s.size - 1, by omega⟩
                have hLt : L < s.size := by omega
                have hl : (bts s).getLast? = some (s[L]'hLt).toNat := by
                  rw [List.getLast?_eq_getElem?, bts_length, hL, Nat.add_sub_cancel, List.getElem?_eq_getElem (by rw [bts_length]; exact hLt), bts_get s L hLt]
                obtain ⟨b, hb⟩ : ∃ b, (s[L]'hLt).toNat = b := ⟨_, rfl⟩
                rw [hl, hb, decide_eq_false h0] at pre
                by_cases hb48 : b = 48
                · exact no (by rw [pre, hb48]; rfl) (last ho (by omega) (by omega) (by omega) q hp c hc hc48 L hL hLt (by rw [hb, hb48]))
                · exact yes (by rw [pre, decide_eq_false (by simpa using hb48)]; rfl) (good ho (by omega) (by omega) (by omega) q hp c hc hc48 L hL hLt b hb hb48)
theorem rcheck_any (n : Bool) (s : ByteArray) (S : Int) (hs : s.size ≤ 1000000) (w : World) : Calls Tryz.prog 14 #[.agg #[.bool n, .string s, .int .i64 S]] w fun e w' => e = .returned (.int .i64 (ckI n s S)) ∧ Below w.heap.size w w' := by
  have T : ∀ {p : Prop} [Decidable p], p → decide p = true := fun h => decide_eq_true h
  have N : ∀ {p : Prop} [Decidable p], ¬ p → decide p = false := fun h => decide_eq_false h
  exact ck_ways (F := fun r => Calls Tryz.prog 14 #[.agg #[.bool n, .string s, .int .i64 S]] w fun e w' => e = .returned (.int .i64 r) ∧ Below w.heap.size w w') n s S
    (fun ho => rck_only_no n s S hs w ho) (fun ho d => rck_long n s S hs w ho d)
    (fun ho h1 h2 => rck_neg n s S hs w ho (N (by omega)) (T h2))
    (fun ho h1 h2 h3 => rck_wide n s S hs w ho (N (by omega)) (N (by omega)) (T h3))
    (fun ho h1 h2 h3 q hn => rck_zero_neg n s S hs w ho (N (by omega)) (N (by omega)) (N (by omega)) q hn)
    (fun ho h1 h2 h3 q hn h0 => rck_zero_scale n s S hs w ho (N (by omega)) (N (by omega)) (N (by omega)) q hn (by simpa using h0))
    (fun ho h1 h2 h3 q hn h0 => rck_zero_ok n s S hs w ho (N (by omega)) (N (by omega)) (N (by omega)) q hn h0)
    (fun ho h1 h2 h3 q hp hc => rck_first n s S hs w ho (N (by omega)) (N (by omega)) (N (by omega)) q hp hc)
    (fun ho h1 h2 h3 q hp c hc h48 h0 => rck_whole n s S hs w ho (N (by omega)) (N (by omega)) (N (by omega)) q hp c hc (beq_no h48) h0)
    (fun ho h1 h2 h3 q hp c hc h48 L hL hLt hl => rck_last n s S hs w L hL (by omega) ho (N (by omega)) (N (by omega)) (N (by omega)) q hp c hc (beq_no h48) (T h2) hLt hl)
    (fun ho h1 h2 h3 q hp c hc h48 L hL hLt b hb hb48 => rck_good n s S hs w L hL (by omega) ho (N (by omega)) (N (by omega)) (N (by omega)) q hp c hc (beq_no h48) (T h2) hLt b hb (beq_no hb48))
end Go.Proofs.YthmmjihldkjhhaaGreatDoor
