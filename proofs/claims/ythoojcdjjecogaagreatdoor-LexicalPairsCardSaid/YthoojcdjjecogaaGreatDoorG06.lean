/-
  Part 6 of the proof: what functions return, and plain facts (Rcheck Pcmp Psmall Pcarry Pplus Ptimes). Conditions: each theorem names its own.
-/
import Derived.Test.YthoojcdjjecogaaGreatDoorG05
import Derived.Deep.WholeRow
set_option maxRecDepth 1000000
set_option maxHeartbeats 16000000
namespace Go.Proofs.YthoojcdjjecogaaGreatDoor
open Go Go.RowKit

theorem rck_only_no (n : Bool) (s : ByteArray) (S : Int) (hs : s.size <= 1000000) (w : World) (ho : onlyB s = false) : Calls Tryz.prog 39 #[.agg #[.bool n, .string s, .int .i64 S]] w fun e w' => e = .returned (.int .i64 2) /\ Below w.heap.size w w' := by
 have C : Hid _ := Lib.hid (rdigits_any s hs)
 have HO : Hid _ := Lib.hid ho
 clear ho
 go_enter Tryz.func39, Tryz.ntmps39
 go_wp2_with (go_at_call 74; refine (C.out _).mono ?_; rintro e w1 ⟨rfl, rfl⟩; rw [HO.out])
 go_ret
 go_light
 exact ⟨rfl, (Below.refl _ _).alloc (Nat.le_refl _) _⟩
theorem rck_long (n : Bool) (s : ByteArray) (S : Int) (hs : s.size <= 1000000) (w : World) (ho : onlyB s = true) (d1 : decide (60 < (s.size : Int)) = true) : Calls Tryz.prog 39 #[.agg #[.bool n, .string s, .int .i64 S]] w fun e w' => e = .returned (.int .i64 2) /\ Below w.heap.size w w' := by
 have C : Hid _ := Lib.hid (rdigits_any s hs)
 have HO : Hid _ := Lib.hid ho
 clear ho
 go_enter Tryz.func39, Tryz.ntmps39
 go_wp2_with (go_at_call 74; refine (C.out _).mono ?_; rintro e w1 ⟨rfl, rfl⟩; rw [HO.out])
 go_ret
 go_light
 exact ⟨rfl, (Below.refl _ _).alloc (Nat.le_refl _) _⟩
theorem rck_neg (n : Bool) (s : ByteArray) (S : Int) (hs : s.size <= 1000000) (w : World) (ho : onlyB s = true) (d1 : decide (60 < (s.size : Int)) = false) (d2 : decide (S < 0) = true) : Calls Tryz.prog 39 #[.agg #[.bool n, .string s, .int .i64 S]] w fun e w' => e = .returned (.int .i64 2) /\ Below w.heap.size w w' := by
 have C : Hid _ := Lib.hid (rdigits_any s hs)
 have HO : Hid _ := Lib.hid ho
 clear ho
 go_enter Tryz.func39, Tryz.ntmps39
 go_wp2_with (go_at_call 74; refine (C.out _).mono ?_; rintro e w1 ⟨rfl, rfl⟩; rw [HO.out])
 go_ret
 go_light
 exact ⟨rfl, (Below.refl _ _).alloc (Nat.le_refl _) _⟩
theorem rck_wide (n : Bool) (s : ByteArray) (S : Int) (hs : s.size <= 1000000) (w : World) (ho : onlyB s = true) (d1 : decide (60 < (s.size : Int)) = false) (d2 : decide (S < 0) = false) (d3 : decide (60 < S) = true) : Calls Tryz.prog 39 #[.agg #[.bool n, .string s, .int .i64 S]] w fun e w' => e = .returned (.int .i64 2) /\ Below w.heap.size w w' := by
 have C : Hid _ := Lib.hid (rdigits_any s hs)
 have HO : Hid _ := Lib.hid ho
 clear ho
 go_enter Tryz.func39, Tryz.ntmps39
 go_wp2_with (go_at_call 74; refine (C.out _).mono ?_; rintro e w1 ⟨rfl, rfl⟩; rw [HO.out])
 go_ret
 go_light
 exact ⟨rfl, (Below.refl _ _).alloc (Nat.le_refl _) _⟩
theorem rck_zero_neg (n : Bool) (s : ByteArray) (S : Int) (hs : s.size <= 1000000) (w : World) (ho : onlyB s = true) (d1 : decide (60 < (s.size : Int)) = false) (d2 : decide (S < 0) = false) (d3 : decide (60 < S) = false) (q : (s.toList == [48]) = true) (hn : n = true) : Calls Tryz.prog 39 #[.agg #[.bool n, .string s, .int .i64 S]] w fun e w' => e = .returned (.int .i64 2) /\ Below w.heap.size w w' := by
 subst hn
 have C : Hid _ := Lib.hid (rdigits_any s hs)
 have HO : Hid _ := Lib.hid ho
 clear ho
 go_enter Tryz.func39, Tryz.ntmps39
 go_wp2_with (go_at_call 74; refine (C.out _).mono ?_; rintro e w1 ⟨rfl, rfl⟩; rw [HO.out])
 go_ret
 go_light
 exact ⟨rfl, (Below.refl _ _).alloc (Nat.le_refl _) _⟩
theorem rck_zero_scale (n : Bool) (s : ByteArray) (S : Int) (hs : s.size <= 1000000) (w : World) (ho : onlyB s = true) (d1 : decide (60 < (s.size : Int)) = false) (d2 : decide (S < 0) = false) (d3 : decide (60 < S) = false) (q : (s.toList == [48]) = true) (hn : n = false) (d4 : (S != 0) = true) : Calls Tryz.prog 39 #[.agg #[.bool n, .string s, .int .i64 S]] w fun e w' => e = .returned (.int .i64 2) /\ Below w.heap.size w w' := by
 subst hn
 have C : Hid _ := Lib.hid (rdigits_any s hs)
 have HO : Hid _ := Lib.hid ho
 clear ho
 go_enter Tryz.func39, Tryz.ntmps39
 go_wp2_with (go_at_call 74; refine (C.out _).mono ?_; rintro e w1 ⟨rfl, rfl⟩; rw [HO.out])
 go_ret
 go_light
 exact ⟨rfl, (Below.refl _ _).alloc (Nat.le_refl _) _⟩
theorem rck_zero_ok (n : Bool) (s : ByteArray) (S : Int) (hs : s.size <= 1000000) (w : World) (ho : onlyB s = true) (d1 : decide (60 < (s.size : Int)) = false) (d2 : decide (S < 0) = false) (d3 : decide (60 < S) = false) (q : (s.toList == [48]) = true) (hn : n = false) (hS : S = 0) : Calls Tryz.prog 39 #[.agg #[.bool n, .string s, .int .i64 S]] w fun e w' => e = .returned (.int .i64 0) /\ Below w.heap.size w w' := by
 subst hn
 subst hS
 have C : Hid _ := Lib.hid (rdigits_any s hs)
 have HO : Hid _ := Lib.hid ho
 clear ho
 go_enter Tryz.func39, Tryz.ntmps39
 go_wp2_with (go_at_call 74; refine (C.out _).mono ?_; rintro e w1 ⟨rfl, rfl⟩; rw [HO.out])
 go_ret
 go_light
 exact ⟨rfl, (Below.refl _ _).alloc (Nat.le_refl _) _⟩
theorem rck_first (n : Bool) (s : ByteArray) (S : Int) (hs : s.size <= 1000000) (w : World) (ho : onlyB s = true) (d1 : decide (60 < (s.size : Int)) = false) (d2 : decide (S < 0) = false) (d3 : decide (60 < S) = false) (q : (s.toList == [48]) = false) (hp : 0 < s.size) (h0 : (s[0]'hp).toNat = 48) : Calls Tryz.prog 39 #[.agg #[.bool n, .string s, .int .i64 S]] w fun e w' => e = .returned (.int .i64 2) /\ Below w.heap.size w w' := by
 have C : Hid _ := Lib.hid (rdigits_any s hs)
 have HO : Hid _ := Lib.hid ho
 clear ho
 go_enter Tryz.func39, Tryz.ntmps39
 go_wp2_with (go_at_call 74; refine (C.out _).mono ?_; rintro e w1 ⟨rfl, rfl⟩; rw [HO.out])
 go_ret
 go_light
 exact ⟨rfl, (Below.refl _ _).alloc (Nat.le_refl _) _⟩
theorem rck_whole (n : Bool) (s : ByteArray) (S : Int) (hs : s.size <= 1000000) (w : World) (ho : onlyB s = true) (d1 : decide (60 < (s.size : Int)) = false) (d2 : decide (S < 0) = false) (d3 : decide (60 < S) = false) (q : (s.toList == [48]) = false) (hp : 0 < s.size) (c : Nat) (h0 : (s[0]'hp).toNat = c) (dc : ((c : Int) == 48) = false) (hS : S = 0) : Calls Tryz.prog 39 #[.agg #[.bool n, .string s, .int .i64 S]] w fun e w' => e = .returned (.int .i64 0) /\ Below w.heap.size w w' := by
 subst hS
 have C : Hid _ := Lib.hid (rdigits_any s hs)
 have HO : Hid _ := Lib.hid ho
 clear ho
 go_enter Tryz.func39, Tryz.ntmps39
 go_wp2_with (go_at_call 74; refine (C.out _).mono ?_; rintro e w1 ⟨rfl, rfl⟩; rw [HO.out])
 go_ret
 go_light
 exact ⟨rfl, (Below.refl _ _).alloc (Nat.le_refl _) _⟩
theorem rck_last (n : Bool) (s : ByteArray) (S : Int) (hs : s.size <= 1000000) (w : World) (L : Nat) (hL : s.size = L + 1) (hL2 : L <= 400) (ho : onlyB s = true) (d1 : decide (60 < ((L : Int) + 1)) = false) (d2 : decide (S < 0) = false) (d3 : decide (60 < S) = false) (q : (s.toList == [48]) = false) (hp : 0 < s.size) (c : Nat) (h0 : (s[0]'hp).toNat = c) (dc : ((c : Int) == 48) = false) (d4 : decide (0 < S) = true) (hLt : L < s.size) (hl : (s[L]'hLt).toNat = 48) : Calls Tryz.prog 39 #[.agg #[.bool n, .string s, .int .i64 S]] w fun e w' => e = .returned (.int .i64 2) /\ Below w.heap.size w w' := by
 have C : Hid _ := Lib.hid (rdigits_any s hs)
 have HO : Hid _ := Lib.hid ho
 clear ho
 go_enter Tryz.func39, Tryz.ntmps39
 go_wp2_with (go_at_call 74; refine (C.out _).mono ?_; rintro e w1 ⟨rfl, rfl⟩; rw [HO.out])
 go_ret
 go_light
 exact ⟨rfl, (Below.refl _ _).alloc (Nat.le_refl _) _⟩
theorem rck_good (n : Bool) (s : ByteArray) (S : Int) (hs : s.size <= 1000000) (w : World) (L : Nat) (hL : s.size = L + 1) (hL2 : L <= 400) (ho : onlyB s = true) (d1 : decide (60 < ((L : Int) + 1)) = false) (d2 : decide (S < 0) = false) (d3 : decide (60 < S) = false) (q : (s.toList == [48]) = false) (hp : 0 < s.size) (c : Nat) (h0 : (s[0]'hp).toNat = c) (dc : ((c : Int) == 48) = false) (d4 : decide (0 < S) = true) (hLt : L < s.size) (b : Nat) (hl : (s[L]'hLt).toNat = b) (db : ((b : Int) == 48) = false) : Calls Tryz.prog 39 #[.agg #[.bool n, .string s, .int .i64 S]] w fun e w' => e = .returned (.int .i64 0) /\ Below w.heap.size w w' := by
 have C : Hid _ := Lib.hid (rdigits_any s hs)
 have HO : Hid _ := Lib.hid ho
 clear ho
 go_enter Tryz.func39, Tryz.ntmps39
 go_wp2_with (go_at_call 74; refine (C.out _).mono ?_; rintro e w1 ⟨rfl, rfl⟩; rw [HO.out])
 go_ret
 go_light
 exact ⟨rfl, (Below.refl _ _).alloc (Nat.le_refl _) _⟩
def okB (n : Bool) (s : ByteArray) (S : Int) : Bool :=
 onlyB s && decide (s.size <= 60) && decide (0 <= S) && decide (S <= 60) && (if bts s = [48] then !n && decide (S = 0) else !decide ((bts s).head? = some 48) && (decide (S = 0) || !decide ((bts s).getLast? = some 48)))
def ckI (n : Bool) (s : ByteArray) (S : Int) : Int := if okB n s S then 0 else 2
theorem ck_yes {n : Bool} {s : ByteArray} {S : Int} (h : okB n s S = true) : ckI n s S = 0 := by unfold ckI; rw [if_pos h]
theorem ck_no {n : Bool} {s : ByteArray} {S : Int} (h : okB n s S = false) : ckI n s S = 2 := by unfold ckI; rw [if_neg (by rw [h]; decide)]
theorem ck_ways {F : Int -> Prop} (n : Bool) (s : ByteArray) (S : Int)
  (only_no : onlyB s = false -> F 2)
  (long : onlyB s = true -> decide (60 < (s.size : Int)) = true -> F 2)
  (neg : onlyB s = true -> s.size <= 60 -> S < 0 -> F 2)
  (wide : onlyB s = true -> s.size <= 60 -> 0 <= S -> 60 < S -> F 2)
  (zero_neg : onlyB s = true -> s.size <= 60 -> 0 <= S -> S <= 60 -> (s.toList == [48]) = true -> n = true -> F 2)
  (zero_scale : onlyB s = true -> s.size <= 60 -> 0 <= S -> S <= 60 -> (s.toList == [48]) = true -> n = false -> S ≠ 0 -> F 2)
  (zero_ok : onlyB s = true -> s.size <= 60 -> 0 <= S -> S <= 60 -> (s.toList == [48]) = true -> n = false -> S = 0 -> F 0)
  (first : onlyB s = true -> s.size <= 60 -> 0 <= S -> S <= 60 -> (s.toList == [48]) = false -> ∀ hp : 0 < s.size, (s[0]'hp).toNat = 48 -> F 2)
  (whole : onlyB s = true -> s.size <= 60 -> 0 <= S -> S <= 60 -> (s.toList == [48]) = false -> ∀ hp : 0 < s.size, ∀ c : Nat, (s[0]'hp).toNat = c -> c ≠ 48 -> S = 0 -> F 0)
  (last : onlyB s = true -> s.size <= 60 -> 0 < S -> S <= 60 -> (s.toList == [48]) = false -> ∀ hp : 0 < s.size, ∀ c : Nat, (s[0]'hp).toNat = c -> c ≠ 48 -> ∀ L : Nat, s.size = L + 1 -> ∀ hL : L < s.size, (s[L]'hL).toNat = 48 -> F 2)
  (good : onlyB s = true -> s.size <= 60 -> 0 < S -> S <= 60 -> (s.toList == [48]) = false -> ∀ hp : 0 < s.size, ∀ c : Nat, (s[0]'hp).toNat = c -> c ≠ 48 -> ∀ L : Nat, s.size = L + 1 -> ∀ hL : L < s.size, ∀ b : Nat, (s[L]'hL).toNat = b -> b ≠ 48 -> F 0) : F (ckI n s S) := by
 have no : okB n s S = false -> F 2 -> F (ckI n s S) := fun h f => by rw [ck_no h]; exact f
 have yes : okB n s S = true -> F 0 -> F (ckI n s S) := fun h f => by rw [ck_yes h]; exact f
 cases ho : onlyB s with
 | false => exact no (by unfold okB; rw [ho]; rfl) (only_no ho)
 | true =>
  by_cases h60 : 60 < s.size
  ·exact no (by unfold okB; rw [decide_eq_false (by omega : ¬ s.size <= 60)]; simp) (long ho (decide_eq_true (by omega)))
  ·by_cases hS : S < 0
   ·exact no (by unfold okB; rw [decide_eq_false (by omega : ¬ 0 <= S)]; simp) (neg ho (by omega) hS)
   ·by_cases hW : 60 < S
    ·exact no (by unfold okB; rw [decide_eq_false (by omega : ¬ S <= 60)]; simp) (wide ho (by omega) (by omega) hW)
    ·have pre : okB n s S = (if bts s = [48] then !n && decide (S = 0) else !decide ((bts s).head? = some 48) && (decide (S = 0) || !decide ((bts s).getLast? = some 48))) := by
      unfold okB
      rw [ho, decide_eq_true (by omega : s.size <= 60), decide_eq_true (by omega : 0 <= S), decide_eq_true (by omega : S <= 60)]; rfl
     have hne : s.size ≠ 0 := by intro h; unfold onlyB at ho; rw [decide_eq_false (by omega : ¬ s.size ≠ 0), Bool.and_false] at ho; cases ho
     have hp : 0 < s.size := Nat.pos_of_ne_zero hne
     by_cases hq : bts s = [48]
     ·rw [if_pos hq] at pre
      have q : (s.toList == [48]) = true := by rw [word_beq, hq]; rfl
      cases n with
      | true => exact no (by rw [pre]; rfl) (zero_neg ho (by omega) (by omega) (by omega) q rfl)
      | false =>
       by_cases h0 : S = 0
       ·exact yes (by rw [pre, h0]; rfl) (zero_ok ho (by omega) (by omega) (by omega) q rfl h0)
       ·exact no (by rw [pre, decide_eq_false h0]; rfl) (zero_scale ho (by omega) (by omega) (by omega) q rfl h0)
     ·rw [if_neg hq] at pre
      have q : (s.toList == [48]) = false := by rw [word_beq]; exact decide_eq_false hq
      have hh : (bts s).head? = some (s[0]'hp).toNat := by
       rw [List.head?_eq_getElem?, List.getElem?_eq_getElem (by rw [bts_length]; exact hp), bts_get s 0 hp]
      obtain ⟨c, hc⟩ : ∃ c, (s[0]'hp).toNat = c := ⟨_, rfl⟩
      rw [hh, hc] at pre
      by_cases hc48 : c = 48
      ·exact no (by rw [pre, hc48]; rfl) (first ho (by omega) (by omega) (by omega) q hp (by rw [hc, hc48]))
      ·have dc : decide (some c = some 48) = false := decide_eq_false (by simpa using hc48)
       rw [dc] at pre
       by_cases h0 : S = 0
       ·exact yes (by rw [pre, decide_eq_true h0]; rfl) (whole ho (by omega) (by omega) (by omega) q hp c hc hc48 h0)
       ·obtain ⟨L, hL⟩ : ∃ L, s.size = L + 1 := ⟨s.size - 1, by omega⟩
        have hLt : L < s.size := by omega
        have hl : (bts s).getLast? = some (s[L]'hLt).toNat := by
         rw [List.getLast?_eq_getElem?, bts_length, hL, Nat.add_sub_cancel, List.getElem?_eq_getElem (by rw [bts_length]; exact hLt), bts_get s L hLt]
        obtain ⟨b, hb⟩ : ∃ b, (s[L]'hLt).toNat = b := ⟨_, rfl⟩
        rw [hl, hb, decide_eq_false h0] at pre
        by_cases hb48 : b = 48
        ·exact no (by rw [pre, hb48]; rfl) (last ho (by omega) (by omega) (by omega) q hp c hc hc48 L hL hLt (by rw [hb, hb48]))
        ·exact yes (by rw [pre, decide_eq_false (by simpa using hb48)]; rfl) (good ho (by omega) (by omega) (by omega) q hp c hc hc48 L hL hLt b hb hb48)
theorem rcheck_any (n : Bool) (s : ByteArray) (S : Int) (hs : s.size <= 1000000) (w : World) : Calls Tryz.prog 39 #[.agg #[.bool n, .string s, .int .i64 S]] w fun e w' => e = .returned (.int .i64 (ckI n s S)) /\ Below w.heap.size w w' := by
 have T : ∀ {p : Prop} [Decidable p], p -> decide p = true := fun h => decide_eq_true h
 have N : ∀ {p : Prop} [Decidable p], ¬ p -> decide p = false := fun h => decide_eq_false h
 exact ck_ways (F := fun r => Calls Tryz.prog 39 #[.agg #[.bool n, .string s, .int .i64 S]] w fun e w' => e = .returned (.int .i64 r) /\ Below w.heap.size w w') n s S
  (fun ho => rck_only_no n s S hs w ho) (fun ho d => rck_long n s S hs w ho d)
  (fun ho h1 h2 => rck_neg n s S hs w ho (N (by omega)) (T h2))
  (fun ho h1 h2 h3 => rck_wide n s S hs w ho (N (by omega)) (N (by omega)) (T h3))
  (fun ho h1 h2 h3 q hn => rck_zero_neg n s S hs w ho (N (by omega)) (N (by omega)) (N (by omega)) q hn)
  (fun ho h1 h2 h3 q hn h0 => rck_zero_scale n s S hs w ho (N (by omega)) (N (by omega)) (N (by omega)) q hn (by simpa using h0))
  (fun ho h1 h2 h3 q hn h0 => rck_zero_ok n s S hs w ho (N (by omega)) (N (by omega)) (N (by omega)) q hn h0)
  (fun ho h1 h2 h3 q hp hc => rck_first n s S hs w ho (N (by omega)) (N (by omega)) (N (by omega)) q hp hc)
  (fun ho h1 h2 h3 q hp c hc h48 h0 => rck_whole n s S hs w ho (N (by omega)) (N (by omega)) (N (by omega)) q hp c hc (beq_no h48) h0)
  (fun ho h1 h2 h3 q hp c hc h48 L hL hLt hl => rck_last n s S hs w L hL (by omega) ho (N (by omega)) (N (by omega)) (N (by omega)) q hp c hc (beq_no h48) (T h2) hLt hl)
  (fun ho h1 h2 h3 q hp c hc h48 L hL hLt b hb hb48 => rck_good n s S hs w L hL (by omega) ho (N (by omega)) (N (by omega)) (N (by omega)) q hp c hc (beq_no h48) (T h2) hLt b hb (beq_no hb48))

def numV (l : List Nat) : Array Value := (l.map fun n : Nat => Value.int .u32 (n : Int)).toArray
theorem numV_size (l : List Nat) : (numV l).size = l.length := by simp [numV]
structure Num (l : List Nat) : Prop where
 len : l.length = 24
 low : ∀ d ∈ l, d < 1000000000
structure Row24 (W : World) (g : Nat) (l : List Nat) : Prop where
 row : W.heap[g]? = some (.cells (numV l) 117)
 len : l.length = 24
theorem Row24.lt {W : World} {g : Nat} {l : List Nat} (h : Row24 W g l) : g < W.heap.size := (Array.getElem?_eq_some_iff.1 h.row).1
theorem Row24.cell {W : World} {g : Nat} {l : List Nat} (h : Row24 W g l) {j : Nat} (hj : j < 24) : W.cell? ⟨g, j, none⟩ = some (.int .u32 (l.getD j 0 : Nat)) := by
 have hj' : j < l.length := by rw [h.len]; exact hj
 have e : (numV l)[j]? = some (Value.int .u32 (l.getD j 0 : Nat)) := by
  simp [numV, hj', List.getD_eq_getElem?_getD]
 simp [World.cell?, h.row, e]
theorem Row24.open {W : World} {g : Nat} {l : List Nat} (h : Row24 W g l) {j : Nat} : W.frozen? ⟨g, j, none⟩ = false := by
 simp [World.frozen?, h.row]
theorem Row24.keep {W W' : World} {g : Nat} {l : List Nat} (h : Row24 W g l) (hb : Below W.heap.size W W') : Row24 W' g l :=
 ⟨(hb.block g h.lt).trans h.row, h.len⟩
theorem Row24.drew {W : World} {g : Nat} {l : List Nat} (h : Row24 W g l) (n : Nat) : Row24 (W.drewN n) g l := h.keep (below_drewN (Below.refl _ W) n)
theorem Row24.put {W : World} {g : Nat} {l : List Nat} (h : Row24 W g l) (j x : Nat) : Row24 (W.setCell ⟨g, j, none⟩ (.int .u32 (x : Int))) g (l.set j x) := by
 obtain ⟨hlt, hk⟩ := Array.getElem?_eq_some_iff.1 h.row
 refine ⟨?_, by rw [List.length_set]; exact h.len⟩
 show (W.heap.modify g _)[g]? = _
 rw [Array.getElem?_eq_getElem (by rw [Array.size_modify]; exact hlt), Array.getElem_modify_self, hk]
 simp [numV, List.map_set]
theorem Row24.apart {W : World} {g b : Nat} {l : List Nat} (h : Row24 W g l) (hb : b ≠ g) (j : Nat) (v : Value) : Row24 (W.setCell ⟨b, j, none⟩ v) g l := by
 refine ⟨?_, h.len⟩
 show (W.heap.modify b _)[g]? = _
 rw [Array.getElem?_modify, if_neg hb]; exact h.row
theorem Row24.new (w : World) (l : List Nat) (h : l.length = 24) : Row24 (w.alloc (.cells (numV l) 117)) w.heap.size l := ⟨heap_alloc_last w _, h⟩
theorem Row24.old {w : World} {g : Nat} {l : List Nat} (h : Row24 w g l) (o : Obj) : Row24 (w.alloc o) g l := h.keep ((Below.refl _ w).alloc (Nat.le_refl _) _)
theorem Num.zeros : Num (List.replicate 24 0) := ⟨by simp, fun d hd => by rw [(List.mem_replicate.1 hd).2]; decide⟩
theorem Num.at {l : List Nat} (h : Num l) (j : Nat) : l.getD j 0 < 1000000000 := Dc.getD_lt h.low j

def cmpI (x y : Nat) : Int := if x < y then -1 else if y < x then 1 else 0
theorem cmp_lt {x y : Nat} (h : x < y) : -1 = cmpI x y := by rw [cmpI, if_pos h]
theorem cmp_gt {x y : Nat} (h : y < x) : 1 = cmpI x y := by rw [cmpI, if_neg (by omega), if_pos h]
theorem cmp_eq {x y : Nat} (h : x = y) : 0 = cmpI x y := by rw [cmpI, if_neg (by omega), if_neg (by omega)]
theorem ret_i64 {a b : Int} (h : a = b) : Ending.returned (.int .i64 a) = .returned (.int .i64 b) := by rw [h]

theorem pcmp_any (a b : List Nat) (ha : Num a) (hb : Num b) (w : World) : Calls Tryz.prog 84 #[.agg (numV a), .agg (numV b)] w fun e w' => e = .returned (.int .i64 (cmpI (Dc.valB a) (Dc.valB b))) /\ Below w.heap.size w w' := by
 have HA : Hid _ := Lib.hid ha
 have HB : Hid _ := Lib.hid hb
 have r1 : Row24 ((w.alloc (.cells (numV a) 117)).alloc (.cells (numV b) 117)) w.heap.size a := (Row24.new w a ha.len).old _
 have r2 : Row24 ((w.alloc (.cells (numV a) 117)).alloc (.cells (numV b) 117)) (w.heap.size + 1) b := by
  have := Row24.new (w.alloc (.cells (numV a) 117)) b hb.len
  rwa [show (w.alloc (.cells (numV a) 117)).heap.size = w.heap.size + 1 from Array.size_push _] at this
 have b0 : Below w.heap.size w ((w.alloc (.cells (numV a) 117)).alloc (.cells (numV b) 117)) := ((Below.refl _ w).alloc (Nat.le_refl _) _).alloc (((Below.refl _ w).alloc (Nat.le_refl _) _).size) _
 clear ha hb
 go_enter Tryz.func84, Tryz.ntmps84
 go_wp2
 go_loopw [5] (fun i wr => ∃ (k : Nat) (z : Int), k <= 24 /\ z = (k : Int) - 1 /\ i = .int .i64 z /\ Hid (a.drop k = b.drop k) /\ Row24 wr w.heap.size a /\ Row24 wr (w.heap.size + 1) b /\ Below w.heap.size w wr) (fun i _ => (intOf i + 1).toNat)
 case atStart => exact ⟨24, 23, Nat.le_refl _, rfl, rfl, Lib.hid (by rw [List.drop_eq_nil_of_le (by rw [HA.out.len]; exact Nat.le_refl _), List.drop_eq_nil_of_le (by rw [HB.out.len]; exact Nat.le_refl _)]), r1, r2, b0⟩
 case round =>
  obtain ⟨k, z, hk, hz, rfl, hd, hr1, hr2, hB⟩ := hrel
  clear r1 r2 b0
  by_cases hk0 : k = 0
  ·subst hk0
   obtain rfl : z = -1 := by omega
   clear hz hk
   go_wp2
   go_ret
   exact ⟨ret_i64 (cmp_eq (by have := hd.out; rw [List.drop_zero, List.drop_zero] at this; rw [this])), hB⟩
  ·obtain ⟨j, rfl⟩ : ∃ j, k = j + 1 := ⟨k - 1, by omega⟩
   obtain rfl : z = (j : Int) := by omega
   have hj : j < 24 := by omega
   have c1 := hr1.cell hj
   have c2 := hr2.cell hj
   have j0 : (0 : Int) <= (j : Int) := by omega
   have j1 : (j : Int) < 24 := by omega
   obtain ⟨x, hx⟩ : ∃ x, a.getD j 0 = x := ⟨_, rfl⟩
   obtain ⟨y, hy⟩ : ∃ y, b.getD j 0 = y := ⟨_, rfl⟩
   rw [hx] at c1
   rw [hy] at c2
   have hja : j < a.length := by rw [HA.out.len]; exact hj
   have hjb : j < b.length := by rw [HB.out.len]; exact hj
   rcases Nat.lt_trichotomy x y with hlt | heq | hgt
   ·have d1 : decide (x < y) = true := decide_eq_true (by omega)
    have ho : Hid (Dc.valB a < Dc.valB b) := Lib.hid (Dc.valB_order hja hjb HA.out.low hd.out (by rw [hx, hy]; exact hlt))
    clear hlt hx hy hja hjb hz hk0
    go_wp2
    go_quiet (fail)
    go_wp2
    go_ret
    exact ⟨ret_i64 (cmp_lt ho.out), below_drewN hB _⟩
   ·have d1 : decide (x < y) = false := decide_eq_false (by omega)
    have d2 : decide (y < x) = false := decide_eq_false (by omega)
    have hd2 : Hid (a.drop j = b.drop j) := Lib.hid (by rw [Dc.drop_getD hja, Dc.drop_getD hjb, hd.out, hx, hy, heq])
    clear heq hx hy hja hjb hz hk0 hd
    go_wp2
    go_quiet (fail)
    go_wp2
    go_quiet (fail)
    go_wp2
    go_roundw
    case rel => exact ⟨j, (j : Int) - 1, by omega, rfl, rfl, hd2, hr1.drew _, hr2.drew _, below_drewN hB _⟩
    case measure => simp [intOf]
   ·have d1 : decide (x < y) = false := decide_eq_false (by omega)
    have d2 : decide (y < x) = true := decide_eq_true (by omega)
    have ho : Hid (Dc.valB b < Dc.valB a) := Lib.hid (Dc.valB_order hjb hja HB.out.low hd.out.symm (by rw [hx, hy]; exact hgt))
    clear hgt hx hy hja hjb hz hk0
    go_wp2
    go_quiet (fail)
    go_wp2
    go_quiet (fail)
    go_wp2
    go_ret
    exact ⟨ret_i64 (cmp_gt ho.out), below_drewN (below_drewN hB _) _⟩

def top : Nat := 1000000000 ^ 24
theorem infoNum : (Tryz.prog.info? 117).map (·.size) = some 24 := by kernel_rfl
theorem undNum : Tryz.prog.underlying 117 = some (.array 24 115) := by kernel_rfl
theorem numV_one (l : List Nat) : (numV l).all (·.oneCell') = true := by
 rw [Array.all_eq_true']; intro x hx
 simp [numV] at hx
 obtain ⟨n, _, rfl⟩ := hx
 rfl
theorem wp_loadN {ops : Array Oper} {rest : List Oper} {o : Oper} {a : Act} {w : World} {Q : Exit -> Act -> World -> Prop} {g : Nat} {l : List Nat} (hr : Row24 w g l) (hgd : o.guard = none) (x : Operand) (ho : o.op = .load 117 x)
  (hx : a.eval x = .pointer (some ⟨g, 0, none⟩)) (h : wpList Tryz.prog ops Q rest (a.put o.dst (.agg (numV l))) w) : wpList Tryz.prog ops Q (o :: rest) a w :=
 wpList_load_row hgd _ x ho g hx _ (numV l) (0, 0) _ hr.row undNum rfl (by rw [infoNum, numV_size, hr.len]) h
theorem wp_storeN {ops : Array Oper} {rest : List Oper} {o : Oper} {a : Act} {w : World} {Q : Exit -> Act -> World -> Prop} {g : Nat} {l m : List Nat} (hr : Row24 w g l) (hm : m.length = 24) (hgd : o.guard = none) (x y : Operand) (ho : o.op = .store 117 x y)
  (hx : a.eval x = .pointer (some ⟨g, 0, none⟩)) (hy : a.eval y = .agg (numV m)) (h : wpList Tryz.prog ops Q rest (a.put o.dst undef) (w.setRow g (numV m))) : wpList Tryz.prog ops Q (o :: rest) a w :=
 wpList_store_row hgd _ x y ho g (numV m) hx hy _ (numV l) hr.row (by rw [infoNum, numV_size, hm]) (by rw [numV_size, numV_size, hr.len, hm]) (numV_one m) h
theorem Row24.set {W : World} {g : Nat} {l m : List Nat} (h : Row24 W g l) (hm : m.length = 24) : Row24 (W.setRow g (numV m)) g m := ⟨setRow_heap W g _ _ _ _ h.row, hm⟩
theorem below_setRow {n : Nat} {w w' : World} (h : Below n w w') {g : Nat} (hg : n <= g) (cs : Array Value) : Below n w (w'.setRow g cs) :=
 ⟨h.os, h.tape, h.output, by rw [setRow_size]; exact h.size, fun k hk => (setRow_other w' g k cs (by omega)).trans (h.block k hk)⟩
theorem Row24.result {W : World} {g : Nat} {l : List Nat} (h : Row24 W g l) {fn : Func} {p : Tmp} (hf : fn.results = #[.cell p 117]) {tmps : Array Value} (hp : tmps.getD p undef = .pointer (some ⟨g, 0, none⟩)) : (results fn tmps).run Tryz.prog W = .ok (.agg (numV l)) W :=
 results_cell_row hf tmps W g _ (numV l) (0, 0) _ hp h.row undNum rfl (by rw [infoNum, numV_size, h.len])
theorem step_take {O : List Nat} {k : Nat} (hO : O.length = 24) (hk : k < 24) (x : Nat) : Dc.valB ((O.set k x).take (k + 1)) = Dc.valB (O.take k) + 1000000000 ^ k * x := by
 rw [Dc.valB_take (by rw [List.length_set]; omega), List.take_set, List.set_eq_of_length_le (by rw [List.length_take]; omega), List.getD_eq_getElem?_getD, List.getElem?_set_self (by omega)]; rfl

theorem psmall_any (a : List Nat) (ha : Num a) (by_ more : Nat) (h1 : by_ < 1000000000) (h2 : more < 1000000000) (w : World) : Calls Tryz.prog 189 #[.agg (numV a), .int .u32 (by_ : Int), .int .u32 (more : Int)] w fun e w' => (∃ O : List Nat, e = .returned (.agg (numV O)) /\ Num O /\ Dc.valB O = (Dc.valB a * by_ + more) % top) /\ Below w.heap.size w w' := by
 have HA : Hid _ := Lib.hid ha
 have r1 : Row24 ((w.alloc (.cells (numV a) 117)).alloc (.cells (numV (List.replicate 24 0)) 117)) w.heap.size a := (Row24.new w a ha.len).old _
 have r2 : Row24 ((w.alloc (.cells (numV a) 117)).alloc (.cells (numV (List.replicate 24 0)) 117)) (w.heap.size + 1) (List.replicate 24 0) := by
  have := Row24.new (w.alloc (.cells (numV a) 117)) (List.replicate 24 0) rfl
  rwa [show (w.alloc (.cells (numV a) 117)).heap.size = w.heap.size + 1 from Array.size_push _] at this
 have b0 : Below w.heap.size w ((w.alloc (.cells (numV a) 117)).alloc (.cells (numV (List.replicate 24 0)) 117)) := ((Below.refl _ w).alloc (Nat.le_refl _) _).alloc (((Below.refl _ w).alloc (Nat.le_refl _) _).size) _
 have R1 : Hid _ := Lib.hid r1
 have R2 : Hid _ := Lib.hid r2
 have B0 : Hid _ := Lib.hid b0
 clear ha r1 r2 b0
 go_enter Tryz.func189, Tryz.ntmps189
 go_wp2
 go_loopw [7, 12] (fun c i wr => ∃ (k cy : Nat) (O : List Nat), k <= 24 /\ i = .int .i64 (k : Int) /\ c = .int .u64 (cy : Int) /\ cy < 1000000000 /\ Hid (∀ d ∈ O.take k, d < 1000000000) /\ Hid (Dc.valB (O.take k) + 1000000000 ^ k * cy = Dc.valB (a.take k) * by_ + more) /\ Hid (O.drop k = a.drop k) /\ Row24 wr w.heap.size O /\ Row24 wr (w.heap.size + 1) (List.replicate 24 0) /\ Below w.heap.size w wr) (fun _ i _ => 24 - (intOf i).toNat)
 case atStart => exact ⟨0, more, a, Nat.zero_le _, rfl, rfl, h2, Lib.hid (by simp), Lib.hid (by simp [Dc.valB]), Lib.hid rfl, R1.out, R2.out, B0.out⟩
 case round =>
  obtain ⟨k, cy, O, hk, rfl, rfl, hcy, hlow, hval, hdr, hr1, hr2, hB⟩ := hrel
  by_cases hk24 : k = 24
  ·subst hk24
   have hO : O.take 24 = O := List.take_of_length_le (by rw [hr1.len]; exact Nat.le_refl _)
   have ha : a.take 24 = a := List.take_of_length_le (by rw [HA.out.len]; exact Nat.le_refl _)
   have hN : Hid (Num O) := Lib.hid ⟨hr1.len, by have := hlow.out; rwa [hO] at this⟩
   have hV : Hid (Dc.valB O = (Dc.valB a * by_ + more) % top) := Lib.hid (by
    have h3 := hval.out
    rw [hO, ha] at h3
    rw [<- h3, top, Nat.add_mul_mod_self_left, Nat.mod_eq_of_lt]
    have := Dc.valB_lt hN.out.low
    rwa [hr1.len] at this)
   have hl := hr1.len
   have R3 : Hid _ := Lib.hid (hr2.set hr1.len)
   clear hO ha hk hlow hval hdr
   go_wp2_with (first
    | (refine wp_loadN hr1 rfl _ rfl rfl ?_)
    | (refine wp_storeN hr2 hl rfl _ _ rfl rfl rfl ?_))
   (try simp only [Exit.inBlock, Exit.then]); refine bodyPost_ret (R3.out.result rfl rfl) rfl ?_
   exact ⟨⟨O, rfl, hN.out, hV.out⟩, below_setRow hB (by omega) _⟩
  ·have hk' : k < 24 := by omega
   have c1 := hr1.cell hk'
   have f1 := hr1.open (j := k)
   have j0 : (0 : Int) <= (k : Int) := by omega
   have j1 : (k : Int) < 24 := by omega
   obtain ⟨x, hx⟩ : ∃ x, a.getD k 0 = x := ⟨_, rfl⟩
   have hxl : x < 1000000000 := by rw [<- hx]; exact HA.out.at k
   have hOx : O.getD k 0 = x := by
    have := congrArg (fun l => l.getD 0 0) hdr.out
    simp only [List.getD_eq_getElem?_getD, List.getElem?_drop, Nat.add_zero] at this
    rw [<- hx, List.getD_eq_getElem?_getD, List.getD_eq_getElem?_getD]; exact this
   rw [hOx] at c1
   obtain ⟨p, hp⟩ : ∃ p, x * by_ = p := ⟨_, rfl⟩
   have hpl : p <= 999999999 * 999999999 := by rw [<- hp]; exact Nat.mul_le_mul (by omega) (by omega)
   have hpi : (x : Int) * (by_ : Int) = (p : Int) := by rw [<- hp]; push_cast; rfl
   obtain ⟨v, hv⟩ : ∃ v, p + cy = v := ⟨_, rfl⟩
   have hvl : v <= 999999999 * 1000000000 := by omega
   have hvi : (p : Int) + (cy : Int) = (v : Int) := by omega
   have hval2 : Hid (Dc.valB ((O.set k (v % 1000000000)).take (k + 1)) + 1000000000 ^ (k + 1) * (v / 1000000000) = Dc.valB (a.take (k + 1)) * by_ + more) := Lib.hid (by
    rw [step_take hr1.len hk', Dc.valB_take (by rw [HA.out.len]; exact hk'), hx, Nat.add_mul, Nat.mul_assoc, hp, Nat.pow_succ, Nat.mul_assoc, Nat.add_assoc, <- Nat.mul_add, Nat.mod_add_div]
    have := hval.out
    rw [<- hv, Nat.mul_add]; omega)
   have hlow2 : Hid (∀ d ∈ (O.set k (v % 1000000000)).take (k + 1), d < 1000000000) := Lib.hid (by
    intro d hd
    rw [List.take_add_one, List.take_set, List.set_eq_of_length_le (by rw [List.length_take]; omega), List.getElem?_set_self (by rw [hr1.len]; exact hk')] at hd
    rcases List.mem_append.1 hd with h | h
    ·exact hlow.out d h
    ·simp at h; rw [h]; exact Nat.mod_lt _ (by decide))
   have hdr2 : Hid ((O.set k (v % 1000000000)).drop (k + 1) = a.drop (k + 1)) := Lib.hid (by
    have h5 := congrArg (List.drop 1) hdr.out
    rw [List.drop_drop, List.drop_drop] at h5
    rw [List.drop_set, if_pos (by omega)]; exact h5)
   clear hx hOx hp hv hlow hval hdr hk24
   go_wp2
   go_roundw
   case rel => exact ⟨k + 1, v / 1000000000, O.set k (v % 1000000000), by omega, rfl, by simp, by omega, hlow2, hval2, hdr2, hr1.put k _, hr2.apart (by omega) k _, hB.setCell (p := ⟨w.heap.size, k, none⟩) (Nat.le_refl _) _⟩
   case measure => simp [intOf]; omega

theorem pplus1_any (x y c z : Int) (hx : 0 <= x) (hx2 : x <= 1000000000) (hy : 0 <= y) (hy2 : y <= 1000000000) (hc : 0 <= c) (hc2 : c <= 1) (hz : x + y + c = z) (w : World) : Calls Tryz.prog 205 #[.int .i64 x, .int .i64 y, .int .i64 c] w fun e w' => e = .returned (.int .i64 z) /\ w' = w := by
 have HZ : Hid _ := Lib.hid hz
 clear hz
 go_enter Tryz.func205, Tryz.ntmps205
 go_wp2
 go_ret
 exact ⟨by rw [HZ.out]; rfl, rfl⟩
theorem pminus1_any (x y c z : Int) (hx : 0 <= x) (hx2 : x <= 1000000000) (hy : 0 <= y) (hy2 : y <= 1000000000) (hc : -1 <= c) (hc2 : c <= 0) (hz : x - y + c = z) (w : World) : Calls Tryz.prog 199 #[.int .i64 x, .int .i64 y, .int .i64 c] w fun e w' => e = .returned (.int .i64 z) /\ w' = w := by
 have HZ : Hid _ := Lib.hid hz
 clear hz
 go_enter Tryz.func199, Tryz.ntmps199
 go_wp2
 go_ret
 exact ⟨by rw [HZ.out]; rfl, rfl⟩
theorem rows3 (w : World) (a b : List Nat) (ha : a.length = 24) (hb : b.length = 24) : Row24 (((w.alloc (.cells (numV a) 117)).alloc (.cells (numV b) 117)).alloc (.cells (numV (List.replicate 24 0)) 117)) w.heap.size a /\
  Row24 (((w.alloc (.cells (numV a) 117)).alloc (.cells (numV b) 117)).alloc (.cells (numV (List.replicate 24 0)) 117)) (w.heap.size + 1) b /\
  Row24 (((w.alloc (.cells (numV a) 117)).alloc (.cells (numV b) 117)).alloc (.cells (numV (List.replicate 24 0)) 117)) (w.heap.size + 1 + 1) (List.replicate 24 0) /\
  Below w.heap.size w (((w.alloc (.cells (numV a) 117)).alloc (.cells (numV b) 117)).alloc (.cells (numV (List.replicate 24 0)) 117)) := by
 have e1 : (w.alloc (.cells (numV a) 117)).heap.size = w.heap.size + 1 := Array.size_push _
 have e2 : ((w.alloc (.cells (numV a) 117)).alloc (.cells (numV b) 117)).heap.size = w.heap.size + 1 + 1 := by rw [<- e1]; exact Array.size_push _
 have b1 : Below w.heap.size w (w.alloc (.cells (numV a) 117)) := (Below.refl _ w).alloc (Nat.le_refl _) _
 have b2 : Below w.heap.size w ((w.alloc (.cells (numV a) 117)).alloc (.cells (numV b) 117)) := b1.alloc b1.size _
 refine ⟨((Row24.new w a ha).old _).old _, ?_, ?_, b2.alloc b2.size _⟩
 ·have := (Row24.new (w.alloc (.cells (numV a) 117)) b hb).old (.cells (numV (List.replicate 24 0)) 117)
  rwa [e1] at this
 ·have := Row24.new ((w.alloc (.cells (numV a) 117)).alloc (.cells (numV b) 117)) (List.replicate 24 0) rfl
  rwa [e2] at this
theorem low_step {O : List Nat} {k x : Nat} (hO : O.length = 24) (hk : k < 24) (h : ∀ d ∈ O.take k, d < 1000000000) (hx : x < 1000000000) : ∀ d ∈ (O.set k x).take (k + 1), d < 1000000000 := by
 intro d hd
 rw [List.take_add_one, List.take_set, List.set_eq_of_length_le (by rw [List.length_take]; omega), List.getElem?_set_self (by omega)] at hd
 rcases List.mem_append.1 hd with h1 | h1
 ·exact h d h1
 ·simp at h1; rw [h1]; exact hx
theorem drop_step {O a : List Nat} {k x : Nat} (h : O.drop k = a.drop k) : (O.set k x).drop (k + 1) = a.drop (k + 1) := by
 have h5 := congrArg (List.drop 1) h
 rw [List.drop_drop, List.drop_drop] at h5
 rw [List.drop_set, if_pos (by omega)]; exact h5
theorem drop_at {O a : List Nat} {k : Nat} (h : O.drop k = a.drop k) : O.getD k 0 = a.getD k 0 := by
 have := congrArg (fun l => l.getD 0 0) h
 simp only [List.getD_eq_getElem?_getD, List.getElem?_drop, Nat.add_zero] at this
 rw [List.getD_eq_getElem?_getD, List.getD_eq_getElem?_getD]; exact this
theorem pcarried_plus (a b : List Nat) (ha : Num a) (hb : Num b) (w : World) : Calls Tryz.prog 198 #[.agg (numV a), .agg (numV b), .func (.func 205) #[] #[]] w fun e w' => (∃ O : List Nat, e = .returned (.agg (numV O)) /\ Num O /\ Dc.valB O = (Dc.valB a + Dc.valB b) % top) /\ Below w.heap.size w w' := by
 have HA : Hid _ := Lib.hid ha
 have HB : Hid _ := Lib.hid hb
 have R : Hid _ := Lib.hid (rows3 w a b ha.len hb.len)
 clear ha hb
 go_enter Tryz.func198, Tryz.ntmps198
 go_wp2
 go_loopw [7, 10] (fun c i wr => ∃ (k cy : Nat) (zc : Int) (O : List Nat), k <= 24 /\ i = .int .i64 (k : Int) /\ c = .int .i64 zc /\ Hid (zc = (cy : Int)) /\ -1 <= zc /\ zc <= 1 /\ cy <= 1 /\ Hid (∀ d ∈ O.take k, d < 1000000000) /\ Hid (Dc.valB (O.take k) + 1000000000 ^ k * cy = Dc.valB (a.take k) + Dc.valB (b.take k)) /\ Hid (O.drop k = a.drop k) /\ Row24 wr w.heap.size O /\ Row24 wr (w.heap.size + 1) b /\ Row24 wr (w.heap.size + 1 + 1) (List.replicate 24 0) /\ Below w.heap.size w wr) (fun _ i _ => 24 - (intOf i).toNat)
 case atStart => exact ⟨0, 0, 0, a, Nat.zero_le _, rfl, rfl, Lib.hid rfl, by omega, by omega, by omega, Lib.hid (by simp), Lib.hid (by simp [Dc.valB]), Lib.hid rfl, R.out.1, R.out.2.1, R.out.2.2.1, R.out.2.2.2⟩
 case round =>
  obtain ⟨k, cy, zc, O, hk, rfl, rfl, hzc, hz1, hz2, hcy, hlow, hval, hdr, hr1, hr2, hr3, hB⟩ := hrel
  by_cases hk24 : k = 24
  ·subst hk24
   have hO : O.take 24 = O := List.take_of_length_le (by rw [hr1.len]; exact Nat.le_refl _)
   have ha : a.take 24 = a := List.take_of_length_le (by rw [HA.out.len]; exact Nat.le_refl _)
   have hb : b.take 24 = b := List.take_of_length_le (by rw [HB.out.len]; exact Nat.le_refl _)
   have hN : Hid (Num O) := Lib.hid ⟨hr1.len, by have := hlow.out; rwa [hO] at this⟩
   have hV : Hid (Dc.valB O = (Dc.valB a + Dc.valB b) % top) := Lib.hid (by
    have h3 := hval.out
    rw [hO, ha, hb] at h3
    have h4 := Dc.valB_lt hN.out.low
    rw [hr1.len] at h4
    rw [top, <- h3, Nat.add_mul_mod_self_left, Nat.mod_eq_of_lt h4])
   have hl := hr1.len
   have R3 : Hid _ := Lib.hid (hr3.set hr1.len)
   clear hO ha hb hk hlow hval hdr
   go_wp2_with (first
    | (refine wp_loadN hr1 rfl _ rfl rfl ?_)
    | (refine wp_storeN hr3 hl rfl _ _ rfl rfl rfl ?_))
   (try simp only [Exit.inBlock, Exit.then]); refine bodyPost_ret (R3.out.result rfl rfl) rfl ?_
   exact ⟨⟨O, rfl, hN.out, hV.out⟩, below_setRow hB (by omega) _⟩
  ·have hk' : k < 24 := by omega
   have c1 := hr1.cell hk'
   have c2 := hr2.cell hk'
   have f1 := hr1.open (j := k)
   have j0 : (0 : Int) <= (k : Int) := by omega
   have j1 : (k : Int) < 24 := by omega
   obtain ⟨x, hx⟩ : ∃ x, a.getD k 0 = x := ⟨_, rfl⟩
   obtain ⟨y, hy⟩ : ∃ y, b.getD k 0 = y := ⟨_, rfl⟩
   have hxl : x < 1000000000 := by rw [<- hx]; exact HA.out.at k
   have hyl : y < 1000000000 := by rw [<- hy]; exact HB.out.at k
   rw [drop_at hdr.out, hx] at c1
   rw [hy] at c2
   have eA : Hid (Dc.valB (a.take (k + 1)) = Dc.valB (a.take k) + 1000000000 ^ k * x) := Lib.hid (by rw [Dc.valB_take (by rw [HA.out.len]; exact hk'), hx])
   have eB : Hid (Dc.valB (b.take (k + 1)) = Dc.valB (b.take k) + 1000000000 ^ k * y) := Lib.hid (by rw [Dc.valB_take (by rw [HB.out.len]; exact hk'), hy])
   have pw : Hid (1000000000 ^ (k + 1) = 1000000000 ^ k * 1000000000) := Lib.hid (Nat.pow_succ ..)
   clear hx hy hk24
   obtain ⟨v, hv⟩ : ∃ v, x + y + cy = v := ⟨_, rfl⟩
   have hz0 : 0 <= zc := by have := hzc.out; omega
   have hvl : v <= 1999999999 := by omega
   have hvi : Hid ((x : Int) + (y : Int) + zc = (v : Int)) := Lib.hid (by have := hzc.out; omega)
   have q1 : Int.tdiv (v : Int) 1000000000 = ((v / 1000000000 : Nat) : Int) := rfl
   have q2 : Int.tmod (v : Int) 1000000000 = ((v % 1000000000 : Nat) : Int) := rfl
   obtain ⟨q, hq⟩ : ∃ q, v / 1000000000 = q := ⟨_, rfl⟩
   obtain ⟨m, hm⟩ : ∃ m, v % 1000000000 = m := ⟨_, rfl⟩
   have hqm : Hid (m + 1000000000 * q = x + y + cy) := Lib.hid (by rw [<- hq, <- hm, Nat.mod_add_div, hv])
   have hml : m < 1000000000 := by omega
   have hql : q <= 1 := by omega
   rw [hq] at q1
   rw [hm] at q2
   have hval2 : Hid (Dc.valB ((O.set k m).take (k + 1)) + 1000000000 ^ (k + 1) * q = Dc.valB (a.take (k + 1)) + Dc.valB (b.take (k + 1))) := Lib.hid (by
    rw [step_take hr1.len hk', eA.out, eB.out, pw.out, Nat.mul_assoc, Nat.add_assoc, <- Nat.mul_add, hqm.out, Nat.mul_add, Nat.mul_add]
    have := hval.out
    omega)
   have hlow2 : Hid (∀ d ∈ (O.set k m).take (k + 1), d < 1000000000) := Lib.hid (low_step hr1.len hk' hlow.out hml)
   have hdr2 : Hid ((O.set k m).drop (k + 1) = a.drop (k + 1)) := Lib.hid (drop_step hdr.out)
   clear hlow hval hdr hv hq hm
   go_wp2
   go_quiet (exact Calls.quiet_of_same (pplus1_any _ _ _ (v : Int) (by omega) (by omega) (by omega) (by omega) hz0 (by omega) hvi.out _))
   go_wp2
   go_roundw
   case rel => exact ⟨k + 1, q, (q : Int), O.set k m, by omega, rfl, rfl, Lib.hid rfl, by omega, by omega, by omega, hlow2, hval2, hdr2, (hr1.drew _).put k _, (hr2.drew _).apart (by omega) k _, (hr3.drew _).apart (by omega) k _, (below_drewN hB _).setCell (p := ⟨w.heap.size, k, none⟩) (Nat.le_refl _) _⟩
   case measure => simp [intOf]; omega
theorem pcarried_minus (a b : List Nat) (ha : Num a) (hb : Num b) (hle : Hid (Dc.valB b <= Dc.valB a)) (w : World) : Calls Tryz.prog 198 #[.agg (numV a), .agg (numV b), .func (.func 199) #[] #[]] w fun e w' => (∃ O : List Nat, e = .returned (.agg (numV O)) /\ Num O /\ Dc.valB O = Dc.valB a - Dc.valB b) /\ Below w.heap.size w w' := by
 have HA : Hid _ := Lib.hid ha
 have HB : Hid _ := Lib.hid hb
 have R : Hid _ := Lib.hid (rows3 w a b ha.len hb.len)
 clear ha hb
 go_enter Tryz.func198, Tryz.ntmps198
 go_wp2
 go_loopw [7, 10] (fun c i wr => ∃ (k cy : Nat) (zc : Int) (O : List Nat), k <= 24 /\ i = .int .i64 (k : Int) /\ c = .int .i64 zc /\ Hid (zc = -(cy : Int)) /\ -1 <= zc /\ zc <= 1 /\ cy <= 1 /\ Hid (∀ d ∈ O.take k, d < 1000000000) /\ Hid (Dc.valB (O.take k) + Dc.valB (b.take k) = Dc.valB (a.take k) + 1000000000 ^ k * cy) /\ Hid (O.drop k = a.drop k) /\ Row24 wr w.heap.size O /\ Row24 wr (w.heap.size + 1) b /\ Row24 wr (w.heap.size + 1 + 1) (List.replicate 24 0) /\ Below w.heap.size w wr) (fun _ i _ => 24 - (intOf i).toNat)
 case atStart => exact ⟨0, 0, 0, a, Nat.zero_le _, rfl, rfl, Lib.hid rfl, by omega, by omega, by omega, Lib.hid (by simp), Lib.hid (by simp [Dc.valB]), Lib.hid rfl, R.out.1, R.out.2.1, R.out.2.2.1, R.out.2.2.2⟩
 case round =>
  obtain ⟨k, cy, zc, O, hk, rfl, rfl, hzc, hz1, hz2, hcy, hlow, hval, hdr, hr1, hr2, hr3, hB⟩ := hrel
  by_cases hk24 : k = 24
  ·subst hk24
   have hO : O.take 24 = O := List.take_of_length_le (by rw [hr1.len]; exact Nat.le_refl _)
   have ha : a.take 24 = a := List.take_of_length_le (by rw [HA.out.len]; exact Nat.le_refl _)
   have hb : b.take 24 = b := List.take_of_length_le (by rw [HB.out.len]; exact Nat.le_refl _)
   have hN : Hid (Num O) := Lib.hid ⟨hr1.len, by have := hlow.out; rwa [hO] at this⟩
   have hV : Hid (Dc.valB O = Dc.valB a - Dc.valB b) := Lib.hid (by
    have h3 := hval.out
    rw [hO, ha, hb] at h3
    have h4 := Dc.valB_lt hN.out.low
    rw [hr1.len] at h4
    have h5 := hle.out
    rw [<- top] at h3 h4
    have h6 : cy = 0 \/ cy = 1 := by omega
    rcases h6 with rfl | rfl <;> omega)
   have hl := hr1.len
   have R3 : Hid _ := Lib.hid (hr3.set hr1.len)
   clear hO ha hb hk hlow hval hdr
   go_wp2_with (first
    | (refine wp_loadN hr1 rfl _ rfl rfl ?_)
    | (refine wp_storeN hr3 hl rfl _ _ rfl rfl rfl ?_))
   (try simp only [Exit.inBlock, Exit.then]); refine bodyPost_ret (R3.out.result rfl rfl) rfl ?_
   exact ⟨⟨O, rfl, hN.out, hV.out⟩, below_setRow hB (by omega) _⟩
  ·have hk' : k < 24 := by omega
   have c1 := hr1.cell hk'
   have c2 := hr2.cell hk'
   have f1 := hr1.open (j := k)
   have j0 : (0 : Int) <= (k : Int) := by omega
   have j1 : (k : Int) < 24 := by omega
   obtain ⟨x, hx⟩ : ∃ x, a.getD k 0 = x := ⟨_, rfl⟩
   obtain ⟨y, hy⟩ : ∃ y, b.getD k 0 = y := ⟨_, rfl⟩
   have hxl : x < 1000000000 := by rw [<- hx]; exact HA.out.at k
   have hyl : y < 1000000000 := by rw [<- hy]; exact HB.out.at k
   rw [drop_at hdr.out, hx] at c1
   rw [hy] at c2
   have eA : Hid (Dc.valB (a.take (k + 1)) = Dc.valB (a.take k) + 1000000000 ^ k * x) := Lib.hid (by rw [Dc.valB_take (by rw [HA.out.len]; exact hk'), hx])
   have eB : Hid (Dc.valB (b.take (k + 1)) = Dc.valB (b.take k) + 1000000000 ^ k * y) := Lib.hid (by rw [Dc.valB_take (by rw [HB.out.len]; exact hk'), hy])
   have pw : Hid (1000000000 ^ (k + 1) = 1000000000 ^ k * 1000000000) := Lib.hid (Nat.pow_succ ..)
   clear hx hy hk24
   rcases Nat.lt_or_ge x (y + cy) with hxy | hxy
   ·rcases Nat.lt_or_ge (y + cy) (x + 1000000000) with hu | hu
    ·obtain ⟨u, hu'⟩ : ∃ u, y + cy = x + u := ⟨y + cy - x, by omega⟩
     obtain ⟨m, hm⟩ : ∃ m, m + u = 1000000000 := ⟨1000000000 - u, by omega⟩
     have hvi : Hid ((x : Int) - (y : Int) + zc = -(u : Int)) := Lib.hid (by have := hzc.out; omega)
     have q1 : Int.tdiv (-(u : Int)) 1000000000 = 0 := by rw [Int.neg_tdiv, show Int.tdiv (u : Int) 1000000000 = ((u / 1000000000 : Nat) : Int) from rfl, Nat.div_eq_of_lt (by omega)]; rfl
     have q2 : Int.tmod (-(u : Int)) 1000000000 = -(u : Int) := by rw [Int.neg_tmod, show Int.tmod (u : Int) 1000000000 = ((u % 1000000000 : Nat) : Int) from rfl, Nat.mod_eq_of_lt (by omega)]
     have q3 : -(u : Int) + 1000000000 = (m : Int) := by omega
     have q4 : decide (-(u : Int) < 0) = true := decide_eq_true (by omega)
     have hval2 : Hid (Dc.valB ((O.set k m).take (k + 1)) + Dc.valB (b.take (k + 1)) = Dc.valB (a.take (k + 1)) + 1000000000 ^ (k + 1) * 1) := Lib.hid (by
      rw [step_take hr1.len hk', eA.out, eB.out, pw.out]
      have h3 := hval.out
      have h4 : 1000000000 ^ k * m + 1000000000 ^ k * y + 1000000000 ^ k * cy = 1000000000 ^ k * x + 1000000000 ^ k * 1000000000 := by
       rw [<- Nat.mul_add, <- Nat.mul_add, <- Nat.mul_add]; congr 1; omega
      omega)
     have hml : m < 1000000000 := by omega
     have hul : u <= 1000000000 := by omega
     have hup : 1 <= u := by omega
     have hlow2 : Hid (∀ d ∈ (O.set k m).take (k + 1), d < 1000000000) := Lib.hid (low_step hr1.len hk' hlow.out hml)
     have hdr2 : Hid ((O.set k m).drop (k + 1) = a.drop (k + 1)) := Lib.hid (drop_step hdr.out)
     have hzn : zc <= 0 := by have := hzc.out; omega
     clear hlow hval hdr hm hu' hxy hu
     go_wp2
     go_quiet (exact Calls.quiet_of_same (pminus1_any _ _ _ (-(u : Int)) (by omega) (by omega) (by omega) (by omega) (by omega) (by omega) hvi.out _))
     go_wp2
     go_roundw
     case rel => exact ⟨k + 1, 1, -1, O.set k m, by omega, rfl, rfl, Lib.hid rfl, by omega, by omega, by omega, hlow2, hval2, hdr2, (hr1.drew _).put k _, (hr2.drew _).apart (by omega) k _, (hr3.drew _).apart (by omega) k _, (below_drewN hB _).setCell (p := ⟨w.heap.size, k, none⟩) (Nat.le_refl _) _⟩
     case measure => simp [intOf]; omega
    ·obtain rfl : x = 0 := by omega
     obtain rfl : y = 999999999 := by omega
     obtain rfl : cy = 1 := by omega
     have hvi : Hid (((0 : Nat) : Int) - ((999999999 : Nat) : Int) + zc = -1000000000) := Lib.hid (by have := hzc.out; omega)
     have hval2 : Hid (Dc.valB ((O.set k 0).take (k + 1)) + Dc.valB (b.take (k + 1)) = Dc.valB (a.take (k + 1)) + 1000000000 ^ (k + 1) * 1) := Lib.hid (by
      rw [step_take hr1.len hk', eA.out, eB.out, pw.out]
      have h3 := hval.out
      omega)
     have hlow2 : Hid (∀ d ∈ (O.set k 0).take (k + 1), d < 1000000000) := Lib.hid (low_step hr1.len hk' hlow.out (by decide))
     have hdr2 : Hid ((O.set k 0).drop (k + 1) = a.drop (k + 1)) := Lib.hid (drop_step hdr.out)
     have hzn : zc <= 0 := by have := hzc.out; omega
     clear hlow hval hdr hxy hu
     go_wp2
     go_quiet (exact Calls.quiet_of_same (pminus1_any _ _ _ (-1000000000) (by decide) (by decide) (by decide) (by decide) (by omega) (by omega) hvi.out _))
     go_wp2
     go_roundw
     case rel => exact ⟨k + 1, 1, -1, O.set k 0, by omega, rfl, rfl, Lib.hid rfl, by omega, by omega, by omega, hlow2, hval2, hdr2, (hr1.drew _).put k _, (hr2.drew _).apart (by omega) k _, (hr3.drew _).apart (by omega) k _, (below_drewN hB _).setCell (p := ⟨w.heap.size, k, none⟩) (Nat.le_refl _) _⟩
     case measure => simp [intOf]; omega
   ·obtain ⟨m, hm⟩ : ∃ m, y + cy + m = x := ⟨x - (y + cy), by omega⟩
    have hvi : Hid ((x : Int) - (y : Int) + zc = (m : Int)) := Lib.hid (by have := hzc.out; omega)
    have q1 : Int.tdiv (m : Int) 1000000000 = 0 := by rw [show Int.tdiv (m : Int) 1000000000 = ((m / 1000000000 : Nat) : Int) from rfl, Nat.div_eq_of_lt (by omega)]; rfl
    have q2 : Int.tmod (m : Int) 1000000000 = (m : Int) := by rw [show Int.tmod (m : Int) 1000000000 = ((m % 1000000000 : Nat) : Int) from rfl, Nat.mod_eq_of_lt (by omega)]
    have hval2 : Hid (Dc.valB ((O.set k m).take (k + 1)) + Dc.valB (b.take (k + 1)) = Dc.valB (a.take (k + 1)) + 1000000000 ^ (k + 1) * 0) := Lib.hid (by
     rw [step_take hr1.len hk', eA.out, eB.out, pw.out]
     have h3 := hval.out
     have h4 : 1000000000 ^ k * m + 1000000000 ^ k * y + 1000000000 ^ k * cy = 1000000000 ^ k * x := by
      rw [<- Nat.mul_add, <- Nat.mul_add]; congr 1; omega
     omega)
    have hml : m < 1000000000 := by omega
    have hlow2 : Hid (∀ d ∈ (O.set k m).take (k + 1), d < 1000000000) := Lib.hid (low_step hr1.len hk' hlow.out hml)
    have hdr2 : Hid ((O.set k m).drop (k + 1) = a.drop (k + 1)) := Lib.hid (drop_step hdr.out)
    have hzn : zc <= 0 := by have := hzc.out; omega
    clear hlow hval hdr hm hxy
    go_wp2
    go_quiet (exact Calls.quiet_of_same (pminus1_any _ _ _ (m : Int) (by omega) (by omega) (by omega) (by omega) (by omega) (by omega) hvi.out _))
    go_wp2
    go_roundw
    case rel => exact ⟨k + 1, 0, 0, O.set k m, by omega, rfl, rfl, Lib.hid rfl, by omega, by omega, by omega, hlow2, hval2, hdr2, (hr1.drew _).put k _, (hr2.drew _).apart (by omega) k _, (hr3.drew _).apart (by omega) k _, (below_drewN hB _).setCell (p := ⟨w.heap.size, k, none⟩) (Nat.le_refl _) _⟩
    case measure => simp [intOf]; omega

theorem pplus_any (a b : List Nat) (ha : Num a) (hb : Num b) (w : World) : Calls Tryz.prog 193 #[.agg (numV a), .agg (numV b)] w fun e w' => (∃ O : List Nat, e = .returned (.agg (numV O)) /\ Num O /\ Dc.valB O = (Dc.valB a + Dc.valB b) % top) /\ Below w.heap.size w w' := by
 obtain ⟨r1, r2, r3, b0⟩ := rows3 w a b ha.len hb.len
 have C : Hid _ := Lib.hid (pcarried_plus a b ha hb)
 clear ha hb
 go_enter Tryz.func193, Tryz.ntmps193
 go_wp2_with (first
  | (refine wp_loadN r1 rfl _ rfl rfl ?_)
  | (refine wp_loadN r2 rfl _ rfl rfl ?_)
  | (go_at_call 198; refine (C.out _).mono ?_; rintro e w1 ⟨⟨O, rfl, hO⟩, hb1⟩; have HO : Hid _ := Lib.hid hO; have r4 := r3.keep hb1; have hl := hO.1.len; have R5 : Hid _ := Lib.hid (r4.set hl); clear hO)
  | (refine wp_storeN r4 hl rfl _ _ rfl rfl rfl ?_))
 (try simp only [Exit.inBlock, Exit.then]); refine bodyPost_ret (R5.out.result rfl rfl) rfl ?_
 exact ⟨⟨O, rfl, HO.out⟩, below_setRow (b0.trans (hb1.mono b0.size)) (by omega) _⟩
theorem pminus_any (a b : List Nat) (ha : Num a) (hb : Num b) (hle : Dc.valB b <= Dc.valB a) (w : World) : Calls Tryz.prog 190 #[.agg (numV a), .agg (numV b)] w fun e w' => (∃ O : List Nat, e = .returned (.agg (numV O)) /\ Num O /\ Dc.valB O = Dc.valB a - Dc.valB b) /\ Below w.heap.size w w' := by
 obtain ⟨r1, r2, r3, b0⟩ := rows3 w a b ha.len hb.len
 have C : Hid _ := Lib.hid (pcarried_minus a b ha hb (Lib.hid hle))
 clear ha hb hle
 go_enter Tryz.func190, Tryz.ntmps190
 go_wp2_with (first
  | (refine wp_loadN r1 rfl _ rfl rfl ?_)
  | (refine wp_loadN r2 rfl _ rfl rfl ?_)
  | (go_at_call 198; refine (C.out _).mono ?_; rintro e w1 ⟨⟨O, rfl, hO⟩, hb1⟩; have HO : Hid _ := Lib.hid hO; have r4 := r3.keep hb1; have hl := hO.1.len; have R5 : Hid _ := Lib.hid (r4.set hl); clear hO)
  | (refine wp_storeN r4 hl rfl _ _ rfl rfl rfl ?_))
 (try simp only [Exit.inBlock, Exit.then]); refine bodyPost_ret (R5.out.result rfl rfl) rfl ?_
 exact ⟨⟨O, rfl, HO.out⟩, below_setRow (b0.trans (hb1.mono b0.size)) (by omega) _⟩
theorem valB_low {l : List Nat} (h : Num l) : Dc.valB l < top := by
 have := Dc.valB_lt h.low
 rwa [h.len] at this
end Go.Proofs.YthoojcdjjecogaaGreatDoor
