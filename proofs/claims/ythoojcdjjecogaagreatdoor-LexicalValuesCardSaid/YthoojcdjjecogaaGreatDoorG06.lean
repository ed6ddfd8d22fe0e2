/-
  Part 6 of the proof: what functions return, and plain facts (Rcheck Pcmp Psmall Res). Conditions: each theorem names its own.
-/
import Derived.Test.YthoojcdjjecogaaGreatDoorG05
import Derived.Deep.WholeRow
import Derived.Test.YthoojcdjjecogaaGreatDoorG04
set_option maxRecDepth 1000000
set_option maxHeartbeats 16000000
namespace Go.Proofs.YthoojcdjjecogaaGreatDoor
open Go Go.RowKit

theorem rck_only_no (n : Bool) (s : ByteArray) (S : Int) (hs : s.size <= 1000000) (w : World) (ho : onlyB s = false) : Calls Tryz.prog 39 #[.agg #[.bool n, .string s, .int .i64 S]] w fun e w' => e = .returned (.int .i64 2) /\ Below w.heap.size w w' := by
 have C : Hid _ := Lib.hid (rdigits_any s hs)
 have HO : Hid _ := Lib.hid ho
 clear ho
 go_enter Tryz.func39, Tryz.ntmps39
 go_wp2_with (go_at_call 74; refine (C.out _).mono ?_; rintro e w1 ⟨rfl, rfl⟩; rw [HO.out])
 go_ret
 go_light
 exact ⟨rfl, (Below.refl _ _).alloc (Nat.le_refl _) _⟩
theorem rck_long (n : Bool) (s : ByteArray) (S : Int) (hs : s.size <= 1000000) (w : World) (ho : onlyB s = true) (d1 : decide (60 < (s.size : Int)) = true) : Calls Tryz.prog 39 #[.agg #[.bool n, .string s, .int .i64 S]] w fun e w' => e = .returned (.int .i64 2) /\ Below w.heap.size w w' := by
 have C : Hid _ := Lib.hid (rdigits_any s hs)
 have HO : Hid _ := Lib.hid ho
 clear ho
 go_enter Tryz.func39, Tryz.ntmps39
 go_wp2_with (go_at_call 74; refine (C.out _).mono ?_; rintro e w1 ⟨rfl, rfl⟩; rw [HO.out])
 go_ret
 go_light
 exact ⟨rfl, (Below.refl _ _).alloc (Nat.le_refl _) _⟩
theorem rck_neg (n : Bool) (s : ByteArray) (S : Int) (hs : s.size <= 1000000) (w : World) (ho : onlyB s = true) (d1 : decide (60 < (s.size : Int)) = false) (d2 : decide (S < 0) = true) : Calls Tryz.prog 39 #[.agg #[.bool n, .string s, .int .i64 S]] w fun e w' => e = .returned (.int .i64 2) /\ Below w.heap.size w w' := by
 have C : Hid _ := Lib.hid (rdigits_any s hs)
 have HO : Hid _ := Lib.hid ho
 clear ho
 go_enter Tryz.func39, Tryz.ntmps39
 go_wp2_with (go_at_call 74; refine (C.out _).mono ?_; rintro e w1 ⟨rfl, rfl⟩; rw [HO.out])
 go_ret
 go_light
 exact ⟨rfl, (Below.refl _ _).alloc (Nat.le_refl _) _⟩
theorem rck_wide (n : Bool) (s : ByteArray) (S : Int) (hs : s.size <= 1000000) (w : World) (ho : onlyB s = true) (d1 : decide (60 < (s.size : Int)) = false) (d2 : decide (S < 0) = false) (d3 : decide (60 < S) = true) : Calls Tryz.prog 39 #[.agg #[.bool n, .string s, .int .i64 S]] w fun e w' => e = .returned (.int .i64 2) /\ Below w.heap.size w w' := by
 have C : Hid _ := Lib.hid (rdigits_any s hs)
 have HO : Hid _ := Lib.hid ho
 clear ho
 go_enter Tryz.func39, Tryz.ntmps39
 go_wp2_with (go_at_call 74; refine (C.out _).mono ?_; rintro e w1 ⟨rfl, rfl⟩; rw [HO.out])
 go_ret
 go_light
 exact ⟨rfl, (Below.refl _ _).alloc (Nat.le_refl _) _⟩
theorem rck_zero_neg (n : Bool) (s : ByteArray) (S : Int) (hs : s.size <= 1000000) (w : World) (ho : onlyB s = true) (d1 : decide (60 < (s.size : Int)) = false) (d2 : decide (S < 0) = false) (d3 : decide (60 < S) = false) (q : (s.toList == [48]) = true) (hn : n = true) : Calls Tryz.prog 39 #[.agg #[.bool n, .string s, .int .i64 S]] w fun e w' => e = .returned (.int .i64 2) /\ Below w.heap.size w w' := by
 subst hn
 have C : Hid _ := Lib.hid (rdigits_any s hs)
 have HO : Hid _ := Lib.hid ho
 clear ho
 go_enter Tryz.func39, Tryz.ntmps39
 go_wp2_with (go_at_call 74; refine (C.out _).mono ?_; rintro e w1 ⟨rfl, rfl⟩; rw [HO.out])
 go_ret
 go_light
 exact ⟨rfl, (Below.refl _ _).alloc (Nat.le_refl _) _⟩
theorem rck_zero_scale (n : Bool) (s : ByteArray) (S : Int) (hs : s.size <= 1000000) (w : World) (ho : onlyB s = true) (d1 : decide (60 < (s.size : Int)) = false) (d2 : decide (S < 0) = false) (d3 : decide (60 < S) = false) (q : (s.toList == [48]) = true) (hn : n = false) (d4 : (S != 0) = true) : Calls Tryz.prog 39 #[.agg #[.bool n, .string s, .int .i64 S]] w fun e w' => e = .returned (.int .i64 2) /\ Below w.heap.size w w' := by
 subst hn
 have C : Hid _ := Lib.hid (rdigits_any s hs)
 have HO : Hid _ := Lib.hid ho
 clear ho
 go_enter Tryz.func39, Tryz.ntmps39
 go_wp2_with (go_at_call 74; refine (C.out _).mono ?_; rintro e w1 ⟨rfl, rfl⟩; rw [HO.out])
 go_ret
 go_light
 exact ⟨rfl, (Below.refl _ _).alloc (Nat.le_refl _) _⟩
theorem rck_zero_ok (n : Bool) (s : ByteArray) (S : Int) (hs : s.size <= 1000000) (w : World) (ho : onlyB s = true) (d1 : decide (60 < (s.size : Int)) = false) (d2 : decide (S < 0) = false) (d3 : decide (60 < S) = false) (q : (s.toList == [48]) = true) (hn : n = false) (hS : S = 0) : Calls Tryz.prog 39 #[.agg #[.bool n, .string s, .int .i64 S]] w fun e w' => e = .returned (.int .i64 0) /\ Below w.heap.size w w' := by
 subst hn
 subst hS
 have C : Hid _ := Lib.hid (rdigits_any s hs)
 have HO : Hid _ := Lib.hid ho
 clear ho
 go_enter Tryz.func39, Tryz.ntmps39
 go_wp2_with (go_at_call 74; refine (C.out _).mono ?_; rintro e w1 ⟨rfl, rfl⟩; rw [HO.out])
 go_ret
 go_light
 exact ⟨rfl, (Below.refl _ _).alloc (Nat.le_refl _) _⟩
theorem rck_first (n : Bool) (s : ByteArray) (S : Int) (hs : s.size <= 1000000) (w : World) (ho : onlyB s = true) (d1 : decide (60 < (s.size : Int)) = false) (d2 : decide (S < 0) = false) (d3 : decide (60 < S) = false) (q : (s.toList == [48]) = false) (hp : 0 < s.size) (h0 : (s[0]'hp).toNat = 48) : Calls Tryz.prog 39 #[.agg #[.bool n, .string s, .int .i64 S]] w fun e w' => e = .returned (.int .i64 2) /\ Below w.heap.size w w' := by
 have C : Hid _ := Lib.hid (rdigits_any s hs)
 have HO : Hid _ := Lib.hid ho
 clear ho
 go_enter Tryz.func39, Tryz.ntmps39
 go_wp2_with (go_at_call 74; refine (C.out _).mono ?_; rintro e w1 ⟨rfl, rfl⟩; rw [HO.out])
 go_ret
 go_light
 exact ⟨rfl, (Below.refl _ _).alloc (Nat.le_refl _) _⟩
theorem rck_whole (n : Bool) (s : ByteArray) (S : Int) (hs : s.size <= 1000000) (w : World) (ho : onlyB s = true) (d1 : decide (60 < (s.size : Int)) = false) (d2 : decide (S < 0) = false) (d3 : decide (60 < S) = false) (q : (s.toList == [48]) = false) (hp : 0 < s.size) (c : Nat) (h0 : (s[0]'hp).toNat = c) (dc : ((c : Int) == 48) = false) (hS : S = 0) : Calls Tryz.prog 39 #[.agg #[.bool n, .string s, .int .i64 S]] w fun e w' => e = .returned (.int .i64 0) /\ Below w.heap.size w w' := by
 subst hS
 have C : Hid _ := Lib.hid (rdigits_any s hs)
 have HO : Hid _ := Lib.hid ho
 clear ho
 go_enter Tryz.func39, Tryz.ntmps39
 go_wp2_with (go_at_call 74; refine (C.out _).mono ?_; rintro e w1 ⟨rfl, rfl⟩; rw [HO.out])
 go_ret
 go_light
 exact ⟨rfl, (Below.refl _ _).alloc (Nat.le_refl _) _⟩
theorem rck_last (n : Bool) (s : ByteArray) (S : Int) (hs : s.size <= 1000000) (w : World) (L : Nat) (hL : s.size = L + 1) (hL2 : L <= 400) (ho : onlyB s = true) (d1 : decide (60 < ((L : Int) + 1)) = false) (d2 : decide (S < 0) = false) (d3 : decide (60 < S) = false) (q : (s.toList == [48]) = false) (hp : 0 < s.size) (c : Nat) (h0 : (s[0]'hp).toNat = c) (dc : ((c : Int) == 48) = false) (d4 : decide (0 < S) = true) (hLt : L < s.size) (hl : (s[L]'hLt).toNat = 48) : Calls Tryz.prog 39 #[.agg #[.bool n, .string s, .int .i64 S]] w fun e w' => e = .returned (.int .i64 2) /\ Below w.heap.size w w' := by
 have C : Hid _ := Lib.hid (rdigits_any s hs)
 have HO : Hid _ := Lib.hid ho
 clear ho
 go_enter Tryz.func39, Tryz.ntmps39
 go_wp2_with (go_at_call 74; refine (C.out _).mono ?_; rintro e w1 ⟨rfl, rfl⟩; rw [HO.out])
 go_ret
 go_light
 exact ⟨rfl, (Below.refl _ _).alloc (Nat.le_refl _) _⟩
theorem rck_good (n : Bool) (s : ByteArray) (S : Int) (hs : s.size <= 1000000) (w : World) (L : Nat) (hL : s.size = L + 1) (hL2 : L <= 400) (ho : onlyB s = true) (d1 : decide (60 < ((L : Int) + 1)) = false) (d2 : decide (S < 0) = false) (d3 : decide (60 < S) = false) (q : (s.toList == [48]) = false) (hp : 0 < s.size) (c : Nat) (h0 : (s[0]'hp).toNat = c) (dc : ((c : Int) == 48) = false) (d4 : decide (0 < S) = true) (hLt : L < s.size) (b : Nat) (hl : (s[L]'hLt).toNat = b) (db : ((b : Int) == 48) = false) : Calls Tryz.prog 39 #[.agg #[.bool n, .string s, .int .i64 S]] w fun e w' => e = .returned (.int .i64 0) /\ Below w.heap.size w w' := by
 have C : Hid _ := Lib.hid (rdigits_any s hs)
 have HO : Hid _ := Lib.hid ho
 clear ho
 go_enter Tryz.func39, Tryz.ntmps39
 go_wp2_with (go_at_call 74; refine (C.out _).mono ?_; rintro e w1 ⟨rfl, rfl⟩; rw [HO.out])
 go_ret
 go_light
 exact ⟨rfl, (Below.refl _ _).alloc (Nat.le_refl _) _⟩
def okB (n : Bool) (s : ByteArray) (S : Int) : Bool :=
 onlyB s && decide (s.size <= 60) && decide (0 <= S) && decide (S <= 60) && (if bts s = [48] then !n && decide (S = 0) else !decide ((bts s).head? = some 48) && (decide (S = 0) || !decide ((bts s).getLast? = some 48)))
def ckI (n : Bool) (s : ByteArray) (S : Int) : Int := if okB n s S then 0 else 2
theorem ck_yes {n : Bool} {s : ByteArray} {S : Int} (h : okB n s S = true) : ckI n s S = 0 := by unfold ckI; rw [if_pos h]
theorem ck_no {n : Bool} {s : ByteArray} {S : Int} (h : okB n s S = false) : ckI n s S = 2 := by unfold ckI; rw [if_neg (by rw [h]; decide)]
theorem ck_ways {F : Int -> Prop} (n : Bool) (s : ByteArray) (S : Int)
  (only_no : onlyB s = false -> F 2)
  (long : onlyB s = true -> decide (60 < (s.size : Int)) = true -> F 2)
  (neg : onlyB s = true -> s.size <= 60 -> S < 0 -> F 2)
  (wide : onlyB s = true -> s.size <= 60 -> 0 <= S -> 60 < S -> F 2)
  (zero_neg : onlyB s = true -> s.size <= 60 -> 0 <= S -> S <= 60 -> (s.toList == [48]) = true -> n = true -> F 2)
  (zero_scale : onlyB s = true -> s.size <= 60 -> 0 <= S -> S <= 60 -> (s.toList == [48]) = true -> n = false -> S ≠ 0 -> F 2)
  (zero_ok : onlyB s = true -> s.size <= 60 -> 0 <= S -> S <= 60 -> (s.toList == [48]) = true -> n = false -> S = 0 -> F 0)
  (first : onlyB s = true -> s.size <= 60 -> 0 <= S -> S <= 60 -> (s.toList == [48]) = false -> ∀ hp : 0 < s.size, (s[0]'hp).toNat = 48 -> F 2)
  (whole : onlyB s = true -> s.size <= 60 -> 0 <= S -> S <= 60 -> (s.toList == [48]) = false -> ∀ hp : 0 < s.size, ∀ c : Nat, (s[0]'hp).toNat = c -> c ≠ 48 -> S = 0 -> F 0)
  (last : onlyB s = true -> s.size <= 60 -> 0 < S -> S <= 60 -> (s.toList == [48]) = false -> ∀ hp : 0 < s.size, ∀ c : Nat, (s[0]'hp).toNat = c -> c ≠ 48 -> ∀ L : Nat, s.size = L + 1 -> ∀ hL : L < s.size, (s[L]'hL).toNat = 48 -> F 2)
  (good : onlyB s = true -> s.size <= 60 -> 0 < S -> S <= 60 -> (s.toList == [48]) = false -> ∀ hp : 0 < s.size, ∀ c : Nat, (s[0]'hp).toNat = c -> c ≠ 48 -> ∀ L : Nat, s.size = L + 1 -> ∀ hL : L < s.size, ∀ b : Nat, (s[L]'hL).toNat = b -> b ≠ 48 -> F 0) : F (ckI n s S) := by
 have no : okB n s S = false -> F 2 -> F (ckI n s S) := fun h f => by rw [ck_no h]; exact f
 have yes : okB n s S = true -> F 0 -> F (ckI n s S) := fun h f => by rw [ck_yes h]; exact f
 cases ho : onlyB s with
 | false => exact no (by unfold okB; rw [ho]; rfl) (only_no ho)
 | true =>
  by_cases h60 : 60 < s.size
  ·exact no (by unfold okB; rw [decide_eq_false (by omega : ¬ s.size <= 60)]; simp) (long ho (decide_eq_true (by omega)))
  ·by_cases hS : S < 0
   ·exact no (by unfold okB; rw [decide_eq_false (by omega : ¬ 0 <= S)]; simp) (neg ho (by omega) hS)
   ·by_cases hW : 60 < S
    ·exact no (by unfold okB; rw [decide_eq_false (by omega : ¬ S <= 60)]; simp) (wide ho (by omega) (by omega) hW)
    ·have pre : okB n s S = (if bts s = [48] then !n && decide (S = 0) else !decide ((bts s).head? = some 48) && (decide (S = 0) || !decide ((bts s).getLast? = some 48))) := by
      unfold okB
      rw [ho, decide_eq_true (by omega : s.size <= 60), decide_eq_true (by omega : 0 <= S), decide_eq_true (by omega : S <= 60)]; rfl
     have hne : s.size ≠ 0 := by intro h; unfold onlyB at ho; rw [decide_eq_false (by omega : ¬ s.size ≠ 0), Bool.and_false] at ho; cases ho
     have hp : 0 < s.size := Nat.pos_of_ne_zero hne
     by_cases hq : bts s = [48]
     ·rw [if_pos hq] at pre
      have q : (s.toList == [48]) = true := by rw [word_beq, hq]; rfl
      cases n with
      | true => exact no (by rw [pre]; rfl) (zero_neg ho (by omega) (by omega) (by omega) q rfl)
      | false =>
       by_cases h0 : S = 0
       ·exact yes (by rw [pre, h0]; rfl) (zero_ok ho (by omega) (by omega) (by omega) q rfl h0)
       ·exact no (by rw [pre, decide_eq_false h0]; rfl) (zero_scale ho (by omega) (by omega) (by omega) q rfl h0)
     ·rw [if_neg hq] at pre
      have q : (s.toList == [48]) = false := by rw [word_beq]; exact decide_eq_false hq
      have hh : (bts s).head? = some (s[0]'hp).toNat := by
       rw [List.head?_eq_getElem?, List.getElem?_eq_getElem (by rw [bts_length]; exact hp), bts_get s 0 hp]
      obtain ⟨c, hc⟩ : ∃ c, (s[0]'hp).toNat = c := ⟨_, rfl⟩
      rw [hh, hc] at pre
      by_cases hc48 : c = 48
      ·exact no (by rw [pre, hc48]; rfl) (first ho (by omega) (by omega) (by omega) q hp (by rw [hc, hc48]))
      ·have dc : decide (some c = some 48) = false := decide_eq_false (by simpa using hc48)
       rw [dc] at pre
       by_cases h0 : S = 0
       ·exact yes (by rw [pre, decide_eq_true h0]; rfl) (whole ho (by omega) (by omega) (by omega) q hp c hc hc48 h0)
       ·obtain ⟨L, hL⟩ : ∃ L, s.size = L + 1 := ⟨s.size - 1, by omega⟩
        have hLt : L < s.size := by omega
        have hl : (bts s).getLast? = some (s[L]'hLt).toNat := by
         rw [List.getLast?_eq_getElem?, bts_length, hL, Nat.add_sub_cancel, List.getElem?_eq_getElem (by rw [bts_length]; exact hLt), bts_get s L hLt]
        obtain ⟨b, hb⟩ : ∃ b, (s[L]'hLt).toNat = b := ⟨_, rfl⟩
        rw [hl, hb, decide_eq_false h0] at pre
        by_cases hb48 : b = 48
        ·exact no (by rw [pre, hb48]; rfl) (last ho (by omega) (by omega) (by omega) q hp c hc hc48 L hL hLt (by rw [hb, hb48]))
        ·exact yes (by rw [pre, decide_eq_false (by simpa using hb48)]; rfl) (good ho (by omega) (by omega) (by omega) q hp c hc hc48 L hL hLt b hb hb48)
theorem rcheck_any (n : Bool) (s : ByteArray) (S : Int) (hs : s.size <= 1000000) (w : World) : Calls Tryz.prog 39 #[.agg #[.bool n, .string s, .int .i64 S]] w fun e w' => e = .returned (.int .i64 (ckI n s S)) /\ Below w.heap.size w w' := by
 have T : ∀ {p : Prop} [Decidable p], p -> decide p = true := fun h => decide_eq_true h
 have N : ∀ {p : Prop} [Decidable p], ¬ p -> decide p = false := fun h => decide_eq_false h
 exact ck_ways (F := fun r => Calls Tryz.prog 39 #[.agg #[.bool n, .string s, .int .i64 S]] w fun e w' => e = .returned (.int .i64 r) /\ Below w.heap.size w w') n s S
  (fun ho => rck_only_no n s S hs w ho) (fun ho d => rck_long n s S hs w ho d)
  (fun ho h1 h2 => rck_neg n s S hs w ho (N (by omega)) (T h2))
  (fun ho h1 h2 h3 => rck_wide n s S hs w ho (N (by omega)) (N (by omega)) (T h3))
  (fun ho h1 h2 h3 q hn => rck_zero_neg n s S hs w ho (N (by omega)) (N (by omega)) (N (by omega)) q hn)
  (fun ho h1 h2 h3 q hn h0 => rck_zero_scale n s S hs w ho (N (by omega)) (N (by omega)) (N (by omega)) q hn (by simpa using h0))
  (fun ho h1 h2 h3 q hn h0 => rck_zero_ok n s S hs w ho (N (by omega)) (N (by omega)) (N (by omega)) q hn h0)
  (fun ho h1 h2 h3 q hp hc => rck_first n s S hs w ho (N (by omega)) (N (by omega)) (N (by omega)) q hp hc)
  (fun ho h1 h2 h3 q hp c hc h48 h0 => rck_whole n s S hs w ho (N (by omega)) (N (by omega)) (N (by omega)) q hp c hc (beq_no h48) h0)
  (fun ho h1 h2 h3 q hp c hc h48 L hL hLt hl => rck_last n s S hs w L hL (by omega) ho (N (by omega)) (N (by omega)) (N (by omega)) q hp c hc (beq_no h48) (T h2) hLt hl)
  (fun ho h1 h2 h3 q hp c hc h48 L hL hLt b hb hb48 => rck_good n s S hs w L hL (by omega) ho (N (by omega)) (N (by omega)) (N (by omega)) q hp c hc (beq_no h48) (T h2) hLt b hb (beq_no hb48))

def numV (l : List Nat) : Array Value := (l.map fun n : Nat => Value.int .u32 (n : Int)).toArray
theorem numV_size (l : List Nat) : (numV l).size = l.length := by simp [numV]
structure Num (l : List Nat) : Prop where
 len : l.length = 24
 low : ∀ d ∈ l, d < 1000000000
structure Row24 (W : World) (g : Nat) (l : List Nat) : Prop where
 row : W.heap[g]? = some (.cells (numV l) 117)
 len : l.length = 24
theorem Row24.lt {W : World} {g : Nat} {l : List Nat} (h : Row24 W g l) : g < W.heap.size := (Array.getElem?_eq_some_iff.1 h.row).1
theorem Row24.cell {W : World} {g : Nat} {l : List Nat} (h : Row24 W g l) {j : Nat} (hj : j < 24) : W.cell? ⟨g, j, none⟩ = some (.int .u32 (l.getD j 0 : Nat)) := by
 have hj' : j < l.length := by rw [h.len]; exact hj
 have e : (numV l)[j]? = some (Value.int .u32 (l.getD j 0 : Nat)) := by
  simp [numV, hj', List.getD_eq_getElem?_getD]
 simp [World.cell?, h.row, e]
theorem Row24.open {W : World} {g : Nat} {l : List Nat} (h : Row24 W g l) {j : Nat} : W.frozen? ⟨g, j, none⟩ = false := by
 simp [World.frozen?, h.row]
theorem Row24.keep {W W' : World} {g : Nat} {l : List Nat} (h : Row24 W g l) (hb : Below W.heap.size W W') : Row24 W' g l :=
 ⟨(hb.block g h.lt).trans h.row, h.len⟩
theorem Row24.drew {W : World} {g : Nat} {l : List Nat} (h : Row24 W g l) (n : Nat) : Row24 (W.drewN n) g l := h.keep (below_drewN (Below.refl _ W) n)
theorem Row24.put {W : World} {g : Nat} {l : List Nat} (h : Row24 W g l) (j x : Nat) : Row24 (W.setCell ⟨g, j, none⟩ (.int .u32 (x : Int))) g (l.set j x) := by
 obtain ⟨hlt, hk⟩ := Array.getElem?_eq_some_iff.1 h.row
 refine ⟨?_, by rw [List.length_set]; exact h.len⟩
 show (W.heap.modify g _)[g]? = _
 rw [Array.getElem?_eq_getElem (by rw [Array.size_modify]; exact hlt), Array.getElem_modify_self, hk]
 simp [numV, List.map_set]
theorem Row24.apart {W : World} {g b : Nat} {l : List Nat} (h : Row24 W g l) (hb : b ≠ g) (j : Nat) (v : Value) : Row24 (W.setCell ⟨b, j, none⟩ v) g l := by
 refine ⟨?_, h.len⟩
 show (W.heap.modify b _)[g]? = _
 rw [Array.getElem?_modify, if_neg hb]; exact h.row
theorem Row24.new (w : World) (l : List Nat) (h : l.length = 24) : Row24 (w.alloc (.cells (numV l) 117)) w.heap.size l := ⟨heap_alloc_last w _, h⟩
theorem Row24.old {w : World} {g : Nat} {l : List Nat} (h : Row24 w g l) (o : Obj) : Row24 (w.alloc o) g l := h.keep ((Below.refl _ w).alloc (Nat.le_refl _) _)
theorem Num.zeros : Num (List.replicate 24 0) := ⟨by simp, fun d hd => by rw [(List.mem_replicate.1 hd).2]; decide⟩
theorem Num.at {l : List Nat} (h : Num l) (j : Nat) : l.getD j 0 < 1000000000 := Dc.getD_lt h.low j

def cmpI (x y : Nat) : Int := if x < y then -1 else if y < x then 1 else 0
theorem cmp_lt {x y : Nat} (h : x < y) : -1 = cmpI x y := by rw [cmpI, if_pos h]
theorem cmp_gt {x y : Nat} (h : y < x) : 1 = cmpI x y := by rw [cmpI, if_neg (by omega), if_pos h]
theorem cmp_eq {x y : Nat} (h : x = y) : 0 = cmpI x y := by rw [cmpI, if_neg (by omega), if_neg (by omega)]
theorem ret_i64 {a b : Int} (h : a = b) : Ending.returned (.int .i64 a) = .returned (.int .i64 b) := by rw [h]

theorem pcmp_any (a b : List Nat) (ha : Num a) (hb : Num b) (w : World) : Calls Tryz.prog 84 #[.agg (numV a), .agg (numV b)] w fun e w' => e = .returned (.int .i64 (cmpI (Dc.valB a) (Dc.valB b))) /\ Below w.heap.size w w' := by
 have HA : Hid _ := Lib.hid ha
 have HB : Hid _ := Lib.hid hb
 have r1 : Row24 ((w.alloc (.cells (numV a) 117)).alloc (.cells (numV b) 117)) w.heap.size a := (Row24.new w a ha.len).old _
 have r2 : Row24 ((w.alloc (.cells (numV a) 117)).alloc (.cells (numV b) 117)) (w.heap.size + 1) b := by
  have := Row24.new (w.alloc (.cells (numV a) 117)) b hb.len
  rwa [show (w.alloc (.cells (numV a) 117)).heap.size = w.heap.size + 1 from Array.size_push _] at this
 have b0 : Below w.heap.size w ((w.alloc (.cells (numV a) 117)).alloc (.cells (numV b) 117)) := ((Below.refl _ w).alloc (Nat.le_refl _) _).alloc (((Below.refl _ w).alloc (Nat.le_refl _) _).size) _
 clear ha hb
 go_enter Tryz.func84, Tryz.ntmps84
 go_wp2
 go_loopw [5] (fun i wr => ∃ (k : Nat) (z : Int), k <= 24 /\ z = (k : Int) - 1 /\ i = .int .i64 z /\ Hid (a.drop k = b.drop k) /\ Row24 wr w.heap.size a /\ Row24 wr (w.heap.size + 1) b /\ Below w.heap.size w wr) (fun i _ => (intOf i + 1).toNat)
 case atStart => exact ⟨24, 23, Nat.le_refl _, rfl, rfl, Lib.hid (by rw [List.drop_eq_nil_of_le (by rw [HA.out.len]; exact Nat.le_refl _), List.drop_eq_nil_of_le (by rw [HB.out.len]; exact Nat.le_refl _)]), r1, r2, b0⟩
 case round =>
  obtain ⟨k, z, hk, hz, rfl, hd, hr1, hr2, hB⟩ := hrel
  clear r1 r2 b0
  by_cases hk0 : k = 0
  ·subst hk0
   obtain rfl : z = -1 := by omega
   clear hz hk
   go_wp2
   go_ret
   exact ⟨ret_i64 (cmp_eq (by have := hd.out; rw [List.drop_zero, List.drop_zero] at this; rw [this])), hB⟩
  ·obtain ⟨j, rfl⟩ : ∃ j, k = j + 1 := ⟨k - 1, by omega⟩
   obtain rfl : z = (j : Int) := by omega
   have hj : j < 24 := by omega
   have c1 := hr1.cell hj
   have c2 := hr2.cell hj
   have j0 : (0 : Int) <= (j : Int) := by omega
   have j1 : (j : Int) < 24 := by omega
   obtain ⟨x, hx⟩ : ∃ x, a.getD j 0 = x := ⟨_, rfl⟩
   obtain ⟨y, hy⟩ : ∃ y, b.getD j 0 = y := ⟨_, rfl⟩
   rw [hx] at c1
   rw [hy] at c2
   have hja : j < a.length := by rw [HA.out.len]; exact hj
   have hjb : j < b.length := by rw [HB.out.len]; exact hj
   rcases Nat.lt_trichotomy x y with hlt | heq | hgt
   ·have d1 : decide (x < y) = true := decide_eq_true (by omega)
    have ho : Hid (Dc.valB a < Dc.valB b) := Lib.hid (Dc.valB_order hja hjb HA.out.low hd.out (by rw [hx, hy]; exact hlt))
    clear hlt hx hy hja hjb hz hk0
    go_wp2
    go_quiet (fail)
    go_wp2
    go_ret
    exact ⟨ret_i64 (cmp_lt ho.out), below_drewN hB _⟩
   ·have d1 : decide (x < y) = false := decide_eq_false (by omega)
    have d2 : decide (y < x) = false := decide_eq_false (by omega)
    have hd2 : Hid (a.drop j = b.drop j) := Lib.hid (by rw [Dc.drop_getD hja, Dc.drop_getD hjb, hd.out, hx, hy, heq])
    clear heq hx hy hja hjb hz hk0 hd
    go_wp2
    go_quiet (fail)
    go_wp2
    go_quiet (fail)
    go_wp2
    go_roundw
    case rel => exact ⟨j, (j : Int) - 1, by omega, rfl, rfl, hd2, hr1.drew _, hr2.drew _, below_drewN hB _⟩
    case measure => simp [intOf]
   ·have d1 : decide (x < y) = false := decide_eq_false (by omega)
    have d2 : decide (y < x) = true := decide_eq_true (by omega)
    have ho : Hid (Dc.valB b < Dc.valB a) := Lib.hid (Dc.valB_order hjb hja HB.out.low hd.out.symm (by rw [hx, hy]; exact hgt))
    clear hgt hx hy hja hjb hz hk0
    go_wp2
    go_quiet (fail)
    go_wp2
    go_quiet (fail)
    go_wp2
    go_ret
    exact ⟨ret_i64 (cmp_gt ho.out), below_drewN (below_drewN hB _) _⟩

def top : Nat := 1000000000 ^ 24
theorem infoNum : (Tryz.prog.info? 117).map (·.size) = some 24 := by kernel_rfl
theorem undNum : Tryz.prog.underlying 117 = some (.array 24 115) := by kernel_rfl
theorem numV_one (l : List Nat) : (numV l).all (·.oneCell') = true := by
 rw [Array.all_eq_true']; intro x hx
 simp [numV] at hx
 obtain ⟨n, _, rfl⟩ := hx
 rfl
theorem wp_loadN {ops : Array Oper} {rest : List Oper} {o : Oper} {a : Act} {w : World} {Q : Exit -> Act -> World -> Prop} {g : Nat} {l : List Nat} (hr : Row24 w g l) (hgd : o.guard = none) (x : Operand) (ho : o.op = .load 117 x)
  (hx : a.eval x = .pointer (some ⟨g, 0, none⟩)) (h : wpList Tryz.prog ops Q rest (a.put o.dst (.agg (numV l))) w) : wpList Tryz.prog ops Q (o :: rest) a w :=
 wpList_load_row hgd _ x ho g hx _ (numV l) (0, 0) _ hr.row undNum rfl (by rw [infoNum, numV_size, hr.len]) h
theorem wp_storeN {ops : Array Oper} {rest : List Oper} {o : Oper} {a : Act} {w : World} {Q : Exit -> Act -> World -> Prop} {g : Nat} {l m : List Nat} (hr : Row24 w g l) (hm : m.length = 24) (hgd : o.guard = none) (x y : Operand) (ho : o.op = .store 117 x y)
  (hx : a.eval x = .pointer (some ⟨g, 0, none⟩)) (hy : a.eval y = .agg (numV m)) (h : wpList Tryz.prog ops Q rest (a.put o.dst undef) (w.setRow g (numV m))) : wpList Tryz.prog ops Q (o :: rest) a w :=
 wpList_store_row hgd _ x y ho g (numV m) hx hy _ (numV l) hr.row (by rw [infoNum, numV_size, hm]) (by rw [numV_size, numV_size, hr.len, hm]) (numV_one m) h
theorem Row24.set {W : World} {g : Nat} {l m : List Nat} (h : Row24 W g l) (hm : m.length = 24) : Row24 (W.setRow g (numV m)) g m := ⟨setRow_heap W g _ _ _ _ h.row, hm⟩
theorem below_setRow {n : Nat} {w w' : World} (h : Below n w w') {g : Nat} (hg : n <= g) (cs : Array Value) : Below n w (w'.setRow g cs) :=
 ⟨h.os, h.tape, h.output, by rw [setRow_size]; exact h.size, fun k hk => (setRow_other w' g k cs (by omega)).trans (h.block k hk)⟩
theorem Row24.result {W : World} {g : Nat} {l : List Nat} (h : Row24 W g l) {fn : Func} {p : Tmp} (hf : fn.results = #[.cell p 117]) {tmps : Array Value} (hp : tmps.getD p undef = .pointer (some ⟨g, 0, none⟩)) : (results fn tmps).run Tryz.prog W = .ok (.agg (numV l)) W :=
 results_cell_row hf tmps W g _ (numV l) (0, 0) _ hp h.row undNum rfl (by rw [infoNum, numV_size, h.len])

structure Res where
 n : Bool
 s : ByteArray
 S : Int
 k : Int
def resOf : Option Dc.D -> Res
 | some a => ⟨a.1, str (Dc.digs a.2.1), (a.2.2 : Int), 0⟩
 | none => ⟨false, ⟨#[]⟩, 0, 7⟩
def formR : Res := ⟨false, ⟨#[]⟩, 0, 6⟩
def Res.ret (r : Res) : Ending := .returned (.tuple #[.agg #[.bool r.n, .string r.s, .int .i64 r.S], .int .i64 r.k])
theorem made_ret (o : Option Dc.D) : madeEnd o = (resOf o).ret := by cases o <;> rfl
theorem made_is {o : Option Dc.D} {r : Res} (h : resOf o = r) : madeEnd o = .returned (.tuple #[.agg #[.bool r.n, .string r.s, .int .i64 r.S], .int .i64 r.k]) := by
 rw [made_ret, h]; rfl
def rawD (n : Bool) (s : ByteArray) (S : Int) : Dc.D := (n, Dc.val (bts s), S.toNat)
structure OkD (n : Bool) (s : ByteArray) (S : Int) : Prop where
 dig : Digs s
 size : s.size <= 60
 pos : 1 <= s.size
 low : 0 <= S
 high : S <= 60
 eq : bts s = Dc.digs (Dc.val (bts s))
 can : Dc.ok (rawD n s S)
theorem okB_ok {n : Bool} {s : ByteArray} {S : Int} (h : okB n s S = true) : OkD n s S := by
 unfold okB onlyB at h
 simp only [Bool.and_eq_true, decide_eq_true_eq] at h
 obtain ⟨⟨⟨⟨⟨h1, h2⟩, h3⟩, h4⟩, h5⟩, h6⟩ := h
 have hne : bts s ≠ [] := fun he => h2 (by rw [<- bts_length, he]; rfl)
 have hh : (bts s).head? ≠ some 48 \/ (bts s).length = 1 := by
  by_cases hq : bts s = [48]
  ·right; rw [hq]; rfl
  ·rw [if_neg hq] at h6
   simp only [Bool.and_eq_true, Bool.not_eq_true', decide_eq_false_iff_not] at h6
   exact .inl h6.1
 have he : bts s = Dc.digs (Dc.val (bts s)) := (Dc.digs_unique h1 hne hh).symm
 refine ⟨⟨h1, hne⟩, h3, by omega, h4, h5, he, ⟨?_, ?_, ?_, ?_⟩⟩
 ·show (Dc.digs (Dc.val (bts s))).length <= 60
  rw [<- he, bts_length]; exact h3
 ·show S.toNat <= 60
  omega
 ·intro h0
  have h0' : Dc.val (bts s) = 0 := h0
  rw [h0'] at he
  rw [if_pos (show bts s = [48] from he)] at h6
  simp only [Bool.and_eq_true, Bool.not_eq_true', decide_eq_true_eq] at h6
  exact ⟨h6.1, by show S.toNat = 0; omega⟩
 ·show S.toNat = 0 \/ Dc.val (bts s) % 10 ≠ 0
  by_cases hq : bts s = [48]
  ·rw [if_pos hq] at h6
   simp only [Bool.and_eq_true, Bool.not_eq_true', decide_eq_true_eq] at h6
   left; omega
  ·rw [if_neg hq] at h6
   simp only [Bool.and_eq_true, Bool.or_eq_true, Bool.not_eq_true', decide_eq_false_iff_not, decide_eq_true_eq] at h6
   rcases h6.2 with h | h
   ·left; omega
   ·right
    intro hz
    apply h
    rw [he, Dc.digs_last, hz]
theorem ok_okB {a : Dc.D} (h : Dc.ok a) : okB a.1 (str (Dc.digs a.2.1)) (a.2.2 : Int) = true := by
 obtain ⟨n, v, S⟩ := a
 obtain ⟨h1, h2, h3, h4⟩ := h
 simp only at h1 h2 h3 h4 ⊢
 unfold okB onlyB
 rw [bts_digs, Dc.digs_dig, str_size]
 have hp := Dc.digs_pos v
 rw [decide_eq_true (by omega : (Dc.digs v).length ≠ 0), decide_eq_true h1, decide_eq_true (by omega : (0 : Int) <= (S : Int)), decide_eq_true (by omega : (S : Int) <= 60)]
 simp only [Bool.true_and]
 by_cases hv : v = 0
 ·subst hv
  obtain ⟨rfl, rfl⟩ := h3 rfl
  rfl
 ·have hq : Dc.digs v ≠ [48] := fun h => Dc.digs_head hv (by rw [h]; rfl)
  rw [if_neg hq, decide_eq_false (Dc.digs_head hv), Dc.digs_last]
  simp only [Bool.not_false, Bool.true_and, Bool.or_eq_true, decide_eq_true_eq, Bool.not_eq_true', decide_eq_false_iff_not, Option.some.injEq]
  omega
def cmpR (n : Bool) (s : ByteArray) (S : Int) (m : Bool) (t : ByteArray) (T : Int) : Int × Int := if okB n s S = true /\ okB m t T = true then (Dc.cmpD (rawD n s S) (rawD m t T), 0) else (0, 2)
def textR (n : Bool) (s : ByteArray) (S : Int) : ByteArray × Int := if okB n s S = true then (str (Dc.txt n (bts s) S.toNat), 0) else (⟨#[]⟩, 2)
def readR (l : List Nat) : Res := match Dc.readD l with
 | none => formR
 | some o => resOf o
def oppN (n : Bool) (s : ByteArray) : Bool := !n && decide (bts s ≠ [48])
theorem opp_raw {n : Bool} {s : ByteArray} {S : Int} (h : OkD n s S) : Dc.opp (rawD n s S) = rawD (oppN n s) s S := by
 unfold Dc.opp rawD oppN
 simp only [Prod.mk.injEq, and_true]
 congr 1
 apply decide_eq_decide.2
 constructor
 ·intro hv he; apply hv; rw [he]; rfl
 ·intro he hv; apply he; rw [h.eq, hv]; rfl
theorem opp_okB {n : Bool} {s : ByteArray} {S : Int} (h : OkD n s S) : okB (oppN n s) s S = true := by
 have h1 := ok_okB (Dc.opp_ok h.can)
 rw [opp_raw h] at h1
 have e : ((S.toNat : Nat) : Int) = S := by have := h.low; omega
 have h2 : okB (oppN n s) (str (Dc.digs (Dc.val (bts s)))) ((S.toNat : Nat) : Int) = true := h1
 rw [<- h.eq, str_bts, e] at h2
 exact h2
theorem raw_res {n : Bool} {s : ByteArray} {S : Int} (h : OkD n s S) (r : Bool) : resOf (some (rawD r s S)) = ⟨r, s, S, 0⟩ := by
 have e : ((S.toNat : Nat) : Int) = S := by have := h.low; omega
 show (⟨r, str (Dc.digs (Dc.val (bts s))), ((S.toNat : Nat) : Int), 0⟩ : Res) = _
 rw [e, <- h.eq, str_bts]
end Go.Proofs.YthoojcdjjecogaaGreatDoor
