/-
  Part 4 of the proof: what functions return, and plain facts (Dnum Dbig Rstr Dtext Rless Rplus Rminus Rtimes Rover Dlaws Dround). Conditions: each theorem names its own.
-/
import Derived.Test.YthoojcdjjecogaaGreatDoorG03
import Derived.WalkLawsBesides
import Derived.IntWalk
set_option maxRecDepth 1000000
set_option maxHeartbeats 16000000
namespace Go.Proofs.YthoojcdjjecogaaGreatDoor.Dc

def dig (c : Nat) : Bool := decide (48 <= c) && decide (c <= 57)
theorem dig_iff {c : Nat} : dig c = true ↔ 48 <= c /\ c <= 57 := by simp [dig]
def val (l : List Nat) : Nat := l.foldl (fun a c => a * 10 + (c - 48)) 0
theorem val_nil : val [] = 0 := rfl
theorem val_snoc (l : List Nat) (c : Nat) : val (l ++ [c]) = val l * 10 + (c - 48) := by simp [val]
theorem val_from (l : List Nat) : ∀ a, l.foldl (fun a c => a * 10 + (c - 48)) a = a * 10 ^ l.length + val l := by
 induction l with
 | nil => intro a; simp [val]
 | cons c l ih =>
  intro a
  have h : val (c :: l) = (0 * 10 + (c - 48)) * 10 ^ l.length + val l := by rw [<- ih]; rfl
  rw [List.foldl_cons, ih, h, List.length_cons, Nat.pow_succ, Nat.zero_mul, Nat.zero_add, Nat.add_mul, Nat.add_assoc, Nat.mul_assoc, Nat.mul_comm 10]
theorem val_append (l m : List Nat) : val (l ++ m) = val l * 10 ^ m.length + val m := by
 rw [val, List.foldl_append, val_from]; rfl
theorem val_cons (c : Nat) (l : List Nat) : val (c :: l) = (c - 48) * 10 ^ l.length + val l := by
 have h := val_append [c] l
 simpa [val] using h
theorem val_lt {l : List Nat} (h : l.all dig = true) : val l < 10 ^ l.length := by
 induction l with
 | nil => simp [val]
 | cons c l ih =>
  simp only [List.all_cons, Bool.and_eq_true] at h
  have hc := dig_iff.1 h.1
  have := ih h.2
  rw [val_cons, List.length_cons, Nat.pow_succ]
  have h9 : (c - 48) * 10 ^ l.length <= 9 * 10 ^ l.length := Nat.mul_le_mul_right _ (by omega)
  omega
theorem val_zeros (n : Nat) : val (List.replicate n 48) = 0 := by
 induction n with
 | zero => rfl
 | succ n ih => rw [List.replicate_succ, val_cons, ih]; simp
theorem val_zeros_front (n : Nat) (l : List Nat) : val (List.replicate n 48 ++ l) = val l := by rw [val_append, val_zeros]; simp
theorem val_zeros_back (l : List Nat) (n : Nat) : val (l ++ List.replicate n 48) = val l * 10 ^ n := by rw [val_append, val_zeros, List.length_replicate]; rfl
theorem zeros_dig (n : Nat) : (List.replicate n 48).all dig = true := by
 rw [List.all_eq_true]; intro c hc; rw [List.eq_of_mem_replicate hc]; rfl

def digsF : Nat -> Nat -> List Nat
 | 0, _ => []
 | f + 1, n => if n < 10 then [48 + n] else digsF f (n / 10) ++ [48 + n % 10]
def digs (n : Nat) : List Nat := digsF (n + 1) n
theorem digsF_eq (f : Nat) : ∀ g n, n < f -> n < g -> digsF f n = digsF g n := by
 induction f with
 | zero => intro g n h; omega
 | succ f ih =>
  intro g n hf hg
  cases g with
  | zero => omega
  | succ g =>
   unfold digsF
   by_cases h : n < 10
   ·rw [if_pos h, if_pos h]
   ·rw [if_neg h, if_neg h, ih g (n / 10) (by omega) (by omega)]
theorem digs_low {n : Nat} (h : n < 10) : digs n = [48 + n] := by unfold digs digsF; rw [if_pos h]
theorem digs_step {n : Nat} (h : 10 <= n) : digs n = digs (n / 10) ++ [48 + n % 10] := by
 unfold digs
 rw [digsF, if_neg (by omega), digsF_eq n (n / 10 + 1) (n / 10) (by omega) (by omega)]
theorem digs_ne (n : Nat) : digs n ≠ [] := by
 by_cases h : n < 10
 ·rw [digs_low h]; simp
 ·rw [digs_step (by omega)]; simp
theorem digs_induct {P : Nat -> Prop} (low : ∀ n, n < 10 -> P n) (step : ∀ n, 10 <= n -> P (n / 10) -> P n) : ∀ n, P n := by
 intro n
 induction n using Nat.strongRecOn with
 | ind n ih =>
  by_cases h : n < 10
  ·exact low n h
  ·exact step n (by omega) (ih (n / 10) (by omega))
theorem val_digs (n : Nat) : val (digs n) = n := by
 induction n using digs_induct with
 | low n h => rw [digs_low h]; simp [val]
 | step n h ih => rw [digs_step h, val_snoc, ih]; omega
theorem digs_dig (n : Nat) : (digs n).all dig = true := by
 induction n using digs_induct with
 | low n h => rw [digs_low h]; simp [dig]; omega
 | step n h ih => rw [digs_step h, List.all_append, ih]; simp [dig]; omega
theorem digs_head {n : Nat} (h : n ≠ 0) : (digs n).head? ≠ some 48 := by
 induction n using digs_induct with
 | low n h2 => rw [digs_low h2]; simp; omega
 | step n h2 ih =>
  rw [digs_step h2]
  have hne := digs_ne (n / 10)
  have := ih (by omega)
  cases hd : digs (n / 10) with
  | nil => exact absurd hd hne
  | cons c r => rw [hd] at this; simpa using this
theorem digs_last (n : Nat) : (digs n).getLast? = some (48 + n % 10) := by
 by_cases h : n < 10
 ·rw [digs_low h]; simp; omega
 ·rw [digs_step (by omega)]; simp
theorem digs_pos (n : Nat) : 1 <= (digs n).length := by
 cases h : digs n with
 | nil => exact absurd h (digs_ne n)
 | cons _ _ => simp
theorem digs_length {n k : Nat} (hk : 1 <= k) : (digs n).length <= k ↔ n < 10 ^ k := by
 constructor
 ·intro h
  have h1 := val_lt (digs_dig n)
  rw [val_digs] at h1
  exact Nat.lt_of_lt_of_le h1 (Nat.pow_le_pow_right (by decide) h)
 ·induction n using digs_induct generalizing k with
  | low n h => intro _; rw [digs_low h]; simpa using hk
  | step n h ih =>
   intro hn
   rw [digs_step h, List.length_append]
   have hk2 : 2 <= k := by
    rcases Nat.lt_or_ge k 2 with h1 | h1
    ·have : k = 1 := by omega
     subst this; simp at hn; omega
    ·exact h1
   obtain ⟨j, rfl⟩ : ∃ j, k = j + 1 := ⟨k - 1, by omega⟩
   have := ih (k := j) (by omega) (by rw [Nat.pow_succ] at hn; omega)
   simp; omega
theorem snoc_induct {P : List Nat -> Prop} (nil : P []) (snoc : ∀ m c, P m -> P (m ++ [c])) : ∀ l, P l := by
 have : ∀ n (l : List Nat), l.length = n -> P l := by
  intro n
  induction n with
  | zero => intro l h; rw [List.length_eq_zero_iff.1 h]; exact nil
  | succ n ih =>
   intro l h
   rcases List.eq_nil_or_concat l with rfl | ⟨m, c, rfl⟩
   ·simp at h
   ·rw [List.concat_eq_append] at h ⊢
    exact snoc m c (ih m (by simpa using h))
 exact fun l => this l.length l rfl
theorem digs_unique {l : List Nat} (hd : l.all dig = true) (hne : l ≠ []) (hh : l.head? ≠ some 48 \/ l.length = 1) : digs (val l) = l := by
 induction l using snoc_induct with
 | nil => exact absurd rfl hne
 | snoc m c ih =>
  rw [List.all_append, Bool.and_eq_true] at hd
  have hc := dig_iff.1 (by simpa using hd.2 : dig c = true)
  rw [val_snoc]
  by_cases hm : m = []
  ·subst hm
   rw [digs_low (by simp [val]; omega)]
   simp [val]; omega
  ·have hmh : m.head? ≠ some 48 := by
    rcases hh with h | h
    ·cases m with
     | nil => exact absurd rfl hm
     | cons x r => simpa using h
    ·rw [List.length_append, List.length_singleton] at h
     have : m.length = 0 := by omega
     exact absurd (List.length_eq_zero_iff.1 this) hm
   have hi := ih hd.1 hm (.inl hmh)
   have hp : 1 <= val m := by
    cases m with
    | nil => exact absurd rfl hm
    | cons x r =>
     simp only [List.all_cons, Bool.and_eq_true] at hd
     have hx := dig_iff.1 hd.1.1
     have : x ≠ 48 := by simpa using hmh
     rw [val_cons]
     have : 1 * 10 ^ r.length <= (x - 48) * 10 ^ r.length := Nat.mul_le_mul_right _ (by omega)
     have : 0 < 10 ^ r.length := Nat.pow_pos (by decide)
     omega
   rw [digs_step (by omega), show (val m * 10 + (c - 48)) / 10 = val m by omega, hi, show 48 + (val m * 10 + (c - 48)) % 10 = c by omega]

def bare : List Nat -> List Nat
 | [] => []
 | [c] => [c]
 | c :: d :: r => if c = 48 then bare (d :: r) else c :: d :: r
theorem bare_step {l : List Nat} (h1 : 1 < l.length) (h2 : l.head? = some 48) : bare l.tail = bare l := by
 match l, h1, h2 with
 | [], h, _ => simp at h
 | [_], h, _ => simp at h
 | c :: d :: r, _, h =>
  have hc : c = 48 := by simpa using h
  subst hc; rfl
theorem bare_short {l : List Nat} (h1 : ¬ 1 < l.length) : bare l = l := by
 match l, h1 with
 | [], _ => rfl
 | [_], _ => rfl
 | _ :: _ :: _, h => simp at h
theorem bare_stop {l : List Nat} (h2 : l.head? ≠ some 48) : bare l = l := by
 match l, h2 with
 | [], _ => rfl
 | [_], _ => rfl
 | c :: d :: r, h =>
  have hc : c ≠ 48 := by simpa using h
  rw [bare, if_neg hc]
theorem bare_spec (l : List Nat) (hd : l.all dig = true) (hne : l ≠ []) : (bare l).all dig = true /\ bare l ≠ [] /\ ((bare l).head? ≠ some 48 \/ (bare l).length = 1) /\ val (bare l) = val l := by
 induction l with
 | nil => exact absurd rfl hne
 | cons c l ih =>
  cases l with
  | nil => exact ⟨hd, by simp [bare], .inr rfl, rfl⟩
  | cons d r =>
   by_cases hc : c = 48
   ·subst hc
    simp only [List.all_cons, Bool.and_eq_true] at hd
    have := ih (by simpa using hd.2) (by simp)
    rw [bare, if_pos rfl]
    refine ⟨this.1, this.2.1, this.2.2.1, ?_⟩
    rw [this.2.2.2, val_cons 48]; simp
   ·rw [bare, if_neg hc]
    exact ⟨hd, by simp, .inl (by simpa using hc), rfl⟩
theorem bare_eq {l : List Nat} (hd : l.all dig = true) (hne : l ≠ []) : bare l = digs (val l) := by
 have h := bare_spec l hd hne
 rw [<- h.2.2.2]
 exact (digs_unique h.1 h.2.1 h.2.2.1).symm

def strip : Nat -> Nat -> Nat × Nat
 | v, 0 => (v, 0)
 | v, S + 1 => if v % 10 = 0 then strip (v / 10) S else (v, S + 1)
theorem strip_spec (S : Nat) : ∀ v, (strip v S).2 <= S /\ v = (strip v S).1 * 10 ^ (S - (strip v S).2) /\ ((strip v S).2 = 0 \/ (strip v S).1 % 10 ≠ 0) := by
 induction S with
 | zero => intro v; simp [strip]
 | succ S ih =>
  intro v
  unfold strip
  by_cases h : v % 10 = 0
  ·rw [if_pos h]
   obtain ⟨h1, h2, h3⟩ := ih (v / 10)
   refine ⟨by omega, ?_, h3⟩
   rw [show S + 1 - (strip (v / 10) S).2 = (S - (strip (v / 10) S).2) + 1 by omega, Nat.pow_succ, <- Nat.mul_assoc, <- h2]
   omega
  ·rw [if_neg h]
   exact ⟨Nat.le_refl _, by simp, .inr h⟩
theorem pow10_pos (k : Nat) : 0 < 10 ^ k := Nat.pow_pos (by decide)
theorem strip_unique {v u S T : Nat} (h : v * 10 ^ T = u * 10 ^ S) (hv : v ≠ 0) : strip v S = strip u T := by
 obtain ⟨a1, a2, a3⟩ := strip_spec S v
 obtain ⟨b1, b2, b3⟩ := strip_spec T u
 obtain ⟨x, X, hx⟩ : ∃ x X, strip v S = (x, X) := ⟨_, _, rfl⟩
 obtain ⟨y, Y, hy⟩ : ∃ y Y, strip u T = (y, Y) := ⟨_, _, rfl⟩
 rw [hx] at a1 a2 a3 ⊢
 rw [hy] at b1 b2 b3 ⊢
 simp only at a1 a2 a3 b1 b2 b3
 have e : x * 10 ^ Y = y * 10 ^ X := by
  have h2 : x * 10 ^ Y * 10 ^ (S - X + (T - Y)) = y * 10 ^ X * 10 ^ (S - X + (T - Y)) := by
   have l1 : x * 10 ^ Y * 10 ^ (S - X + (T - Y)) = v * 10 ^ T := by
    rw [a2, Nat.mul_assoc, Nat.mul_assoc, <- Nat.pow_add, <- Nat.pow_add]; congr 2; omega
   have l2 : y * 10 ^ X * 10 ^ (S - X + (T - Y)) = u * 10 ^ S := by
    rw [b2, Nat.mul_assoc, Nat.mul_assoc, <- Nat.pow_add, <- Nat.pow_add]; congr 2; omega
   rw [l1, l2, h]
  exact Nat.eq_of_mul_eq_mul_right (pow10_pos _) h2
 have hx0 : x ≠ 0 := by rintro rfl; simp at a2; exact hv a2
 rcases Nat.lt_trichotomy X Y with h1 | h1 | h1
 ·have : x * 10 ^ (Y - X) = y := by
   refine Nat.eq_of_mul_eq_mul_right (pow10_pos X) ?_
   rw [Nat.mul_assoc, <- Nat.pow_add, show Y - X + X = Y by omega, e]
  obtain ⟨k, hk⟩ : ∃ k, Y - X = k + 1 := ⟨Y - X - 1, by omega⟩
  rw [hk, Nat.pow_succ, <- Nat.mul_assoc] at this
  rcases b3 with b3 | b3
  ·omega
  ·omega
 ·subst h1
  have := Nat.eq_of_mul_eq_mul_right (pow10_pos X) e
  rw [this]
 ·have : y * 10 ^ (X - Y) = x := by
   refine Nat.eq_of_mul_eq_mul_right (pow10_pos Y) ?_
   rw [Nat.mul_assoc, <- Nat.pow_add, show X - Y + Y = X by omega, e]
  obtain ⟨k, hk⟩ : ∃ k, X - Y = k + 1 := ⟨X - Y - 1, by omega⟩
  rw [hk, Nat.pow_succ, <- Nat.mul_assoc] at this
  rcases a3 with a3 | a3
  ·omega
  ·omega

def can (neg : Bool) (v S : Nat) : Option (Bool × Nat × Nat) :=
 if v = 0 then some (false, 0, 0) else if 60 < (digs (strip v S).1).length \/ 60 < (strip v S).2 then none else some (neg, (strip v S).1, (strip v S).2)
theorem can_congr {v u S T : Nat} (neg : Bool) (h : v * 10 ^ T = u * 10 ^ S) : can neg v S = can neg u T := by
 unfold can
 by_cases hv : v = 0
 ·subst hv
  have hu : u = 0 := by
   rw [Nat.zero_mul] at h
   rcases Nat.mul_eq_zero.1 h.symm with h | h
   ·exact h
   ·have := pow10_pos S; omega
  rw [if_pos rfl, if_pos hu]
 ·have hu : u ≠ 0 := by
   rintro rfl
   rw [Nat.zero_mul] at h
   rcases Nat.mul_eq_zero.1 h with h | h
   ·exact hv h
   ·have := pow10_pos T; omega
  rw [if_neg hv, if_neg hu, strip_unique h hv]
def isCan (neg : Bool) (v S : Nat) : Prop := (digs v).length <= 60 /\ S <= 60 /\ (v = 0 -> neg = false /\ S = 0) /\ (S = 0 \/ v % 10 ≠ 0)
theorem strip_done {v S : Nat} (h : S = 0 \/ v % 10 ≠ 0) : strip v S = (v, S) := by
 cases S with
 | zero => rfl
 | succ S =>
  rcases h with h | h
  ·omega
  ·unfold strip; rw [if_neg h]
theorem can_self {neg : Bool} {v S : Nat} (h : isCan neg v S) : can neg v S = some (neg, v, S) := by
 obtain ⟨h1, h2, h3, h4⟩ := h
 unfold can
 by_cases hv : v = 0
 ·subst hv
  obtain ⟨rfl, rfl⟩ := h3 rfl
  rfl
 ·rw [if_neg hv, strip_done h4, if_neg (by simp only; omega)]
theorem can_is {neg n : Bool} {v S u T : Nat} (h : can neg v S = some (n, u, T)) : isCan n u T /\ (v = 0 -> n = false) /\ (v ≠ 0 -> n = neg) /\ v * 10 ^ T = u * 10 ^ S := by
 unfold can at h
 by_cases hv : v = 0
 ·rw [if_pos hv] at h
  cases h
  exact ⟨⟨by decide, by decide, fun _ => ⟨rfl, rfl⟩, .inl rfl⟩, fun _ => rfl, fun h => absurd hv h, by rw [hv]; simp⟩
 ·rw [if_neg hv] at h
  obtain ⟨a1, a2, a3⟩ := strip_spec S v
  split at h
  ·cases h
  ·rename_i hr
   simp only [Option.some.injEq, Prod.mk.injEq] at h
   obtain ⟨rfl, rfl, rfl⟩ := h
   refine ⟨⟨by omega, by omega, fun h0 => ?_, a3⟩, fun h => absurd h hv, fun _ => rfl, ?_⟩
   ·rw [h0] at a2; simp at a2; exact absurd a2 hv
   ·generalize strip v S = p at *
    obtain ⟨x, X⟩ := p
    simp only at *
    rw [a2, Nat.mul_assoc, <- Nat.pow_add, show S - X + X = S by omega]

def sg (neg : Bool) (v : Nat) : Int := if neg then -(v : Int) else (v : Int)
def canI (m : Int) (S : Nat) : Option (Bool × Nat × Nat) := can (decide (m < 0)) m.natAbs S
theorem can_sg (neg : Bool) (v S : Nat) : can neg v S = canI (sg neg v) S := by
 unfold canI sg
 by_cases hv : v = 0
 ·subst hv; cases neg <;> simp [can]
 ·cases neg
  ·simp only [Bool.false_eq_true, if_false, Int.natAbs_natCast]
   rw [decide_eq_false (by omega)]
  ·simp only [if_true, Int.natAbs_neg, Int.natAbs_natCast]
   rw [decide_eq_true (by omega)]
theorem canI_congr {m k : Int} {S T : Nat} (h : m * 10 ^ T = k * 10 ^ S) : canI m S = canI k T := by
 have hp : ∀ n : Nat, (0 : Int) < 10 ^ n := fun n => Int.pow_pos (by decide)
 have hs : decide (m < 0) = decide (k < 0) := by
  have key : m < 0 ↔ k < 0 := by
   constructor
   ·intro hm
    have : m * 10 ^ T < 0 := Int.mul_neg_of_neg_of_pos hm (hp T)
    rw [h] at this
    rcases Int.lt_or_le k 0 with hk | hk
    ·exact hk
    ·have := Int.mul_nonneg hk (Int.le_of_lt (hp S)); omega
   ·intro hk
    have : k * 10 ^ S < 0 := Int.mul_neg_of_neg_of_pos hk (hp S)
    rw [<- h] at this
    rcases Int.lt_or_le m 0 with hm | hm
    ·exact hm
    ·have := Int.mul_nonneg hm (Int.le_of_lt (hp T)); omega
  exact decide_eq_decide.2 key
 unfold canI
 rw [hs]
 refine can_congr _ ?_
 have := congrArg Int.natAbs h
 rw [Int.natAbs_mul, Int.natAbs_mul, Int.natAbs_pow, Int.natAbs_pow] at this
 exact this
theorem sg_canI {neg : Bool} {v S : Nat} (h : isCan neg v S) : canI (sg neg v) S = some (neg, v, S) := by rw [<- can_sg, can_self h]
theorem canI_is {m : Int} {S : Nat} {n : Bool} {u T : Nat} (h : canI m S = some (n, u, T)) : isCan n u T /\ m * 10 ^ T = sg n u * 10 ^ S := by
 unfold canI at h
 obtain ⟨h1, h2, h3, h4⟩ := can_is h
 refine ⟨h1, ?_⟩
 by_cases hm : m = 0
 ·subst hm
  have h0 : u = 0 := by
   rw [Int.natAbs_zero, Nat.zero_mul] at h4
   rcases Nat.mul_eq_zero.1 h4.symm with h4 | h4
   ·exact h4
   ·have := pow10_pos S; omega
  subst h0
  simp [sg]
 ·have hn : n = decide (m < 0) := h3 (by omega)
  have h5 : ((m.natAbs : Nat) : Int) * 10 ^ T = (u : Int) * 10 ^ S := by exact_mod_cast h4
  unfold sg
  rcases Int.lt_or_le m 0 with hneg | hpos
  ·rw [decide_eq_true hneg] at hn
   subst hn
   rw [show m = -((m.natAbs : Nat) : Int) by omega, if_pos rfl, Int.neg_mul, Int.neg_mul, h5]
  ·rw [decide_eq_false (by omega)] at hn
   subst hn
   rw [show m = ((m.natAbs : Nat) : Int) by omega, if_neg (by decide), h5]
end Go.Proofs.YthoojcdjjecogaaGreatDoor.Dc
namespace Go.Proofs.YthoojcdjjecogaaGreatDoor.Dc

def valB : List Nat -> Nat
 | [] => 0
 | d :: r => d + 1000000000 * valB r
theorem valB_append (l m : List Nat) : valB (l ++ m) = valB l + 1000000000 ^ l.length * valB m := by
 induction l with
 | nil => simp [valB]
 | cons d l ih =>
  rw [List.cons_append, valB, ih, valB, List.length_cons, Nat.pow_succ, Nat.mul_add, <- Nat.mul_assoc, Nat.mul_comm (1000000000 ^ l.length), Nat.add_assoc]
theorem valB_lt {l : List Nat} (h : ∀ d ∈ l, d < 1000000000) : valB l < 1000000000 ^ l.length := by
 induction l with
 | nil => simp [valB]
 | cons d l ih =>
  have h1 := h d (List.mem_cons_self ..)
  have h2 := ih (fun x hx => h x (List.mem_cons_of_mem _ hx))
  rw [valB, List.length_cons, Nat.pow_succ]
  omega
theorem valB_take {l : List Nat} {k : Nat} (h : k < l.length) : valB (l.take (k + 1)) = valB (l.take k) + 1000000000 ^ k * l.getD k 0 := by
 rw [List.take_succ_eq_append_getElem h, valB_append, List.length_take, Nat.min_eq_left (by omega)]
 simp [valB, List.getD_eq_getElem?_getD, h]
theorem valB_zeros (n : Nat) : valB (List.replicate n 0) = 0 := by
 induction n with
 | zero => rfl
 | succ n ih => rw [List.replicate_succ, valB, ih]
theorem valB_split (l : List Nat) (k : Nat) (h : k <= l.length) : valB l = valB (l.take k) + 1000000000 ^ k * valB (l.drop k) := by
 have := valB_append (l.take k) (l.drop k)
 rwa [List.take_append_drop, List.length_take, Nat.min_eq_left h] at this
theorem drop_getD {l : List Nat} {k : Nat} (h : k < l.length) : l.drop k = l.getD k 0 :: l.drop (k + 1) := by
 rw [List.drop_eq_getElem_cons h]; simp [List.getD_eq_getElem?_getD, h]
theorem getD_lt {l : List Nat} (h : ∀ d ∈ l, d < 1000000000) (k : Nat) : l.getD k 0 < 1000000000 := by
 rcases Nat.lt_or_ge k l.length with hk | hk
 ·rw [List.getD_eq_getElem?_getD, List.getElem?_eq_getElem hk]; exact h _ (List.getElem_mem hk)
 ·rw [List.getD_eq_getElem?_getD, List.getElem?_eq_none hk]; decide
theorem valB_order {l m : List Nat} {k : Nat} (hl : k < l.length) (hm : k < m.length) (hb : ∀ d ∈ l, d < 1000000000) (hs : l.drop (k + 1) = m.drop (k + 1)) (h : l.getD k 0 < m.getD k 0) : valB l < valB m := by
 rw [valB_split l k (by omega), valB_split m k (by omega), drop_getD hl, drop_getD hm, hs, valB, valB]
 have h1 := valB_lt (l := l.take k) (fun d hd => hb d (List.mem_of_mem_take hd))
 rw [List.length_take, Nat.min_eq_left (by omega)] at h1
 have h2 : 1000000000 ^ k * (l.getD k 0 + 1000000000 * valB (m.drop (k + 1))) + 1000000000 ^ k <= 1000000000 ^ k * (m.getD k 0 + 1000000000 * valB (m.drop (k + 1))) := by
  rw [<- Nat.mul_succ]; exact Nat.mul_le_mul_left _ (by omega)
 omega
theorem valB_set {l : List Nat} {k x : Nat} (h : k < l.length) : valB (l.set k x) + 1000000000 ^ k * l.getD k 0 = valB l + 1000000000 ^ k * x := by
 have e : l.set k x = l.take k ++ x :: l.drop (k + 1) := by rw [List.set_eq_take_append_cons_drop, if_pos h]
 rw [e, valB_append, List.length_take, Nat.min_eq_left (by omega), valB, valB_split l k (by omega), drop_getD h, valB, Nat.mul_add, Nat.mul_add]
 omega

theorem set_drop {l : List Nat} {j x : Nat} (h : j < l.length) : (l.set j x).drop j = x :: l.drop (j + 1) := by
 have h2 : j < (l.set j x).length := by rw [List.length_set]; exact h
 rw [drop_getD h2]
 congr 1
 ·simp [List.getD_eq_getElem?_getD, h]
 ·rw [List.drop_set, if_pos (by omega)]
theorem val_drop {l : List Nat} {j : Nat} (h : j < l.length) : val (l.drop j) = (l.getD j 0 - 48) * 10 ^ (l.length - (j + 1)) + val (l.drop (j + 1)) := by
 rw [drop_getD h, val_cons, List.length_drop]
theorem add_step {O X Y : List Nat} {n j cy d : Nat} (hO : O.length = n) (hX : X.length = n) (hY : Y.length = n) (hj : j < n) (hd : d = (X.getD j 0 - 48) + (Y.getD j 0 - 48) + cy)
  (h : val (O.drop (j + 1)) + cy * 10 ^ (n - (j + 1)) = val (X.drop (j + 1)) + val (Y.drop (j + 1))) : val ((O.set j (48 + d % 10)).drop j) + d / 10 * 10 ^ (n - j) = val (X.drop j) + val (Y.drop j) := by
 rw [set_drop (by omega), val_cons, val_drop (l := X) (by omega), val_drop (l := Y) (by omega), List.length_drop, hO, hX, hY, show n - j = (n - (j + 1)) + 1 by omega, Nat.pow_succ, Nat.mul_comm _ 10, Nat.add_sub_cancel_left]
 generalize 10 ^ (n - (j + 1)) = P at *
 have e1 : d % 10 * P + d / 10 * (10 * P) = d * P := by rw [<- Nat.mul_assoc, <- Nat.add_mul]; congr 1; omega
 have e2 : d * P = (X.getD j 0 - 48) * P + (Y.getD j 0 - 48) * P + cy * P := by rw [hd, Nat.add_mul, Nat.add_mul]
 omega
theorem sub_step {O X Y : List Nat} {n j bw d : Nat} (hO : O.length = n) (hX : X.length = n) (hY : Y.length = n) (hj : j < n) (hx : 48 <= X.getD j 0) (hy : 48 <= Y.getD j 0) (hy2 : Y.getD j 0 <= 57) (hx2 : X.getD j 0 <= 57) (hbw : bw <= 1) (hd : d + Y.getD j 0 + bw = 10 + X.getD j 0)
  (h : val (O.drop (j + 1)) + val (Y.drop (j + 1)) = val (X.drop (j + 1)) + bw * 10 ^ (n - (j + 1))) : val ((O.set j (48 + d % 10)).drop j) + val (Y.drop j) = val (X.drop j) + (1 - d / 10) * 10 ^ (n - j) := by
 rw [set_drop (by omega), val_cons, val_drop (l := X) (by omega), val_drop (l := Y) (by omega), List.length_drop, hO, hX, hY, show n - j = (n - (j + 1)) + 1 by omega, Nat.pow_succ, Nat.mul_comm _ 10, Nat.add_sub_cancel_left]
 generalize 10 ^ (n - (j + 1)) = P at *
 have e1 : d % 10 * P + (Y.getD j 0 - 48) * P + bw * P = (X.getD j 0 - 48) * P + (1 - d / 10) * (10 * P) := by
  rw [<- Nat.mul_assoc, <- Nat.add_mul, <- Nat.add_mul, <- Nat.add_mul]; congr 1; omega
 omega
def pad (k n : Nat) : List Nat := List.replicate (k - (digs n).length) 48 ++ digs n
theorem val_pad (k n : Nat) : val (pad k n) = n := by rw [pad, val_zeros_front, val_digs]
theorem pad_dig (k n : Nat) : (pad k n).all dig = true := by rw [pad, List.all_append, zeros_dig, digs_dig]; rfl
theorem pad_length {k n : Nat} (hk : 1 <= k) (h : n < 10 ^ k) : (pad k n).length = k := by
 have := (digs_length hk).2 h
 rw [pad, List.length_append, List.length_replicate]; omega
theorem digs_pad {x d k : Nat} (hx : x ≠ 0) (hk : 1 <= k) (hd : d < 10 ^ k) : digs (x * 10 ^ k + d) = digs x ++ pad k d := by
 have hv : val (digs x ++ pad k d) = x * 10 ^ k + d := by rw [val_append, val_digs, val_pad, pad_length hk hd]
 rw [<- hv]
 refine digs_unique ?_ ?_ (.inl ?_)
 ·rw [List.all_append, digs_dig, pad_dig]; rfl
 ·intro h; exact digs_ne x (List.append_eq_nil_iff.1 h).1
 ·have h1 := digs_head hx
  cases hc : digs x with
  | nil => exact absurd hc (digs_ne x)
  | cons c r => rw [hc] at h1; simpa using h1
def lexLt : List Nat -> List Nat -> Bool
 | [], [] => false
 | [], _ :: _ => true
 | _ :: _, [] => false
 | a :: l, b :: m => decide (a < b) || (decide (a = b) && lexLt l m)
theorem lex_val : ∀ (l m : List Nat), l.length = m.length -> l.all dig = true -> m.all dig = true -> lexLt l m = decide (val l < val m)
 | [], [], _, _, _ => rfl
 | [], _ :: _, h, _, _ => by simp at h
 | _ :: _, [], h, _, _ => by simp at h
 | a :: l, b :: m, h, hl, hm => by
  simp only [List.all_cons, Bool.and_eq_true] at hl hm
  have ha := dig_iff.1 hl.1
  have hb := dig_iff.1 hm.1
  have hlen : l.length = m.length := by simpa using h
  have ih := lex_val l m hlen hl.2 hm.2
  have h1 := val_lt hl.2
  have h2 := val_lt hm.2
  rw [lexLt, ih, val_cons, val_cons, hlen]
  rw [hlen] at h1
  rcases Nat.lt_trichotomy a b with c | c | c
  ·have : (a - 48) * 10 ^ m.length + 10 ^ m.length <= (b - 48) * 10 ^ m.length := by
    rw [<- Nat.succ_mul]; exact Nat.mul_le_mul_right _ (by omega)
   rw [decide_eq_true c, decide_eq_true (by omega : (a - 48) * 10 ^ m.length + val l < (b - 48) * 10 ^ m.length + val m)]; rfl
  ·subst c
   rw [decide_eq_false (by omega : ¬ a < a), decide_eq_true rfl, Bool.false_or, Bool.true_and]
   exact decide_eq_decide.2 ⟨by omega, by omega⟩
  ·have : (b - 48) * 10 ^ m.length + 10 ^ m.length <= (a - 48) * 10 ^ m.length := by
    rw [<- Nat.succ_mul]; exact Nat.mul_le_mul_right _ (by omega)
   rw [decide_eq_false (by omega : ¬ a < b), decide_eq_false (by omega : ¬ a = b), decide_eq_false (by omega : ¬ (a - 48) * 10 ^ m.length + val l < (b - 48) * 10 ^ m.length + val m)]; rfl
theorem lex_digs {x y : Nat} : (decide ((digs x).length < (digs y).length) || (decide ((digs x).length = (digs y).length) && lexLt (digs x) (digs y))) = decide (x < y) := by
 rcases Nat.lt_trichotomy (digs x).length (digs y).length with c | c | c
 ·have h1 := (digs_length (n := x) (digs_pos x)).1 (Nat.le_refl _)
  have h2 : ¬ y < 10 ^ (digs x).length := fun h => by have := (digs_length (n := y) (digs_pos x)).2 h; omega
  rw [decide_eq_true c, decide_eq_true (by omega : x < y)]; rfl
 ·rw [decide_eq_false (by omega : ¬ (digs x).length < (digs y).length), decide_eq_true c, lex_val _ _ c (digs_dig x) (digs_dig y), val_digs, val_digs]; rfl
 ·have h1 := (digs_length (n := y) (digs_pos y)).1 (Nat.le_refl _)
  have h2 : ¬ x < 10 ^ (digs y).length := fun h => by have := (digs_length (n := x) (digs_pos y)).2 h; omega
  rw [decide_eq_false (by omega : ¬ (digs x).length < (digs y).length), decide_eq_false (by omega : ¬ (digs x).length = (digs y).length), decide_eq_false (by omega : ¬ x < y)]; rfl
end Go.Proofs.YthoojcdjjecogaaGreatDoor.Dc
namespace Go.Proofs.YthoojcdjjecogaaGreatDoor
open Go Go.RowKit

theorem str_append (l m : List Nat) : str l ++ str m = str (l ++ m) := by
 apply ByteArray.ext
 simp [str]
theorem ret_str {s t : ByteArray} (h : s = t) : Ending.returned (.string s) = .returned (.string t) := by rw [h]

theorem rdigits_yes (s : ByteArray) (hs : s.size <= 1000000) (hd : (bts s).all Dc.dig = true) (hne : s.size ≠ 0) (w : World) : Calls Tryz.prog 74 #[.string s] w fun e w' => e = .returned (.bool true) /\ w = w' := by
 have HD : Hid _ := Lib.hid hd
 have he := isEmpty_no (Nat.pos_of_ne_zero hne)
 clear hd hne
 go_enter Tryz.func74, Tryz.ntmps74
 go_wp2
 go_loop [3] (fun i => ∃ k : Nat, k <= s.size /\ i = .int .i64 k) (fun i => s.size - (intOf i).toNat)
 case atStart => exact ⟨0, Nat.zero_le _, rfl⟩
 case round =>
  obtain ⟨k, hk, rfl⟩ := hrel
  by_cases hlt : k < s.size
  ·obtain ⟨c, hc⟩ : ∃ c, (s[k]'hlt).toNat = c := ⟨_, rfl⟩
   have hm := Dc.dig_iff.1 (List.all_eq_true.1 HD.out c (by rw [<- hc, <- bts_get s k hlt]; exact List.getElem_mem _))
   have d1 : decide ((c : Int) < 48) = false := decide_eq_false (by omega)
   have d2 : decide (57 < (c : Int)) = false := decide_eq_false (by omega)
   clear hm
   go_wp2
   go_round
   case rel => exact ⟨k + 1, by omega, by simp⟩
   case measure => simp [intOf]; omega
  ·go_wp2
   go_ret
   exact ⟨rfl, rfl⟩
theorem rdigits_no (s : ByteArray) (hs : s.size <= 1000000) (hd : (bts s).all Dc.dig = false) (w : World) : Calls Tryz.prog 74 #[.string s] w fun e w' => e = .returned (.bool false) /\ w = w' := by
 have HD : Hid _ := Lib.hid hd
 clear hd
 go_enter Tryz.func74, Tryz.ntmps74
 go_wp2
 go_loop [3] (fun i => ∃ k : Nat, k <= s.size /\ i = .int .i64 k /\ Hid (((bts s).take k).all Dc.dig = true)) (fun i => s.size - (intOf i).toNat)
 case atStart => exact ⟨0, Nat.zero_le _, rfl, Lib.hid rfl⟩
 case round =>
  obtain ⟨k, hk, rfl, hall⟩ := hrel
  by_cases hlt : k < s.size
  ·obtain ⟨c, hc⟩ : ∃ c, (s[k]'hlt).toNat = c := ⟨_, rfl⟩
   by_cases hm : 48 <= c /\ c <= 57
   ·have hall2 : Hid (((bts s).take (k + 1)).all Dc.dig = true) := Lib.hid (by rw [bts_take_succ s k hlt, List.all_append, hall.out, hc]; simp [Dc.dig, hm.1, hm.2])
    have d1 : decide ((c : Int) < 48) = false := decide_eq_false (by omega)
    have d2 : decide (57 < (c : Int)) = false := decide_eq_false (by omega)
    clear hm hall
    go_wp2
    go_round
    case rel => exact ⟨k + 1, by omega, by simp, hall2⟩
    case measure => simp [intOf]; omega
   ·by_cases h1 : c < 48
    ·have d1 : decide ((c : Int) < 48) = true := decide_eq_true (by omega)
     clear hm h1 hall
     go_wp2
     go_ret
     exact ⟨rfl, rfl⟩
    ·have d1 : decide ((c : Int) < 48) = false := decide_eq_false (by omega)
     have d2 : decide (57 < (c : Int)) = true := decide_eq_true (by omega)
     clear hm h1 hall
     go_wp2
     go_ret
     exact ⟨rfl, rfl⟩
  ·exfalso
   have hke : (bts s).take k = bts s := List.take_of_length_le (by rw [bts_length]; omega)
   have := hall.out
   rw [hke, HD.out] at this; cases this
theorem rdigits_nil (s : ByteArray) (hs : s.size = 0) (w : World) : Calls Tryz.prog 74 #[.string s] w fun e w' => e = .returned (.bool false) /\ w = w' := by
 have he := isEmpty_yes hs
 go_enter Tryz.func74, Tryz.ntmps74
 go_wp2
 refine wp_loop_rounds 1 ?_
 rw [rounds_succ]
 go_wp2
 go_ret
 exact ⟨rfl, rfl⟩
def onlyB (s : ByteArray) : Bool := (bts s).all Dc.dig && decide (s.size ≠ 0)
theorem rdigits_any (s : ByteArray) (hs : s.size <= 1000000) (w : World) : Calls Tryz.prog 74 #[.string s] w fun e w' => e = .returned (.bool (onlyB s)) /\ w = w' := by
 unfold onlyB
 by_cases h0 : s.size = 0
 ·rw [decide_eq_false (by omega : ¬ s.size ≠ 0), Bool.and_false]; exact rdigits_nil s h0 w
 ·rw [decide_eq_true (by omega : s.size ≠ 0), Bool.and_true]
  cases hd : (bts s).all Dc.dig with
  | true => exact rdigits_yes s hs hd h0 w
  | false => exact rdigits_no s hs hd w

theorem rbare_any (s : ByteArray) (hs : s.size <= 1000000) (w : World) : Calls Tryz.prog 113 #[.string s] w fun e w' => (∃ t : ByteArray, e = .returned (.string t) /\ t = str (Dc.bare (bts s))) /\ w = w' := by
 go_enter Tryz.func113, Tryz.ntmps113
 go_wp2
 go_loop [0] (fun v => ∃ t : ByteArray, v = .string t /\ t.size <= 1000000 /\ Hid (Dc.bare (bts t) = Dc.bare (bts s))) (fun v => match v with | .string t => t.size | _ => 0)
 case atStart => exact ⟨s, rfl, hs, Lib.hid rfl⟩
 case round =>
  obtain ⟨t, rfl, ht, hb⟩ := hrel
  by_cases h1 : 1 < t.size
  ·obtain ⟨c, hc⟩ : ∃ c, (t[0]'(by omega)).toNat = c := ⟨_, rfl⟩
   have hhd : (bts t).head? = some c := by
    rw [List.head?_eq_getElem?, List.getElem?_eq_getElem (by rw [bts_length]; omega), bts_get t 0 (by omega), hc]
   obtain ⟨r, hr⟩ : ∃ r, t.extract 1 t.size = r := ⟨_, rfl⟩
   have hbr : bts r = (bts t).tail := by rw [<- hr]; exact bts_tail t
   by_cases h48 : c = 48
   ·subst h48
    have hb2 : Hid (Dc.bare (bts r) = Dc.bare (bts s)) := Lib.hid (by
     rw [<- hb.out, hbr]; exact Dc.bare_step (by rw [bts_length]; exact h1) hhd)
    have hrl : r.size = t.size - 1 := by rw [<- bts_length, hbr, List.length_tail, bts_length]
    have HRL : Hid _ := Lib.hid hrl
    clear hb hbr hhd hrl
    go_wp2
    go_round
    case rel => exact ⟨r, rfl, by have := HRL.out; omega, hb2⟩
    case measure => have := HRL.out; simp; omega
   ·have d : ((c : Int) == 48) = false := beq_no h48
    have hfin : Hid (t = str (Dc.bare (bts s))) := Lib.hid (by
     rw [<- hb.out, Dc.bare_stop (by rw [hhd]; simpa using h48), str_bts])
    clear hb hbr hhd h48
    go_wp2
    go_ret
    exact ⟨ret_str hfin.out, rfl⟩
  ·have hfin : Hid (t = str (Dc.bare (bts s))) := Lib.hid (by
    rw [<- hb.out, Dc.bare_short (by rw [bts_length]; exact h1), str_bts])
   clear hb
   go_wp2
   go_ret
   exact ⟨ret_str hfin.out, rfl⟩

theorem rzeros_any (z : Int) (n : Nat) (hz : z = n) (hn : n <= 1000000) (w : World) : Calls Tryz.prog 69 #[.int .i64 z] w fun e w' => (∃ t : ByteArray, e = .returned (.string t) /\ t = str (List.replicate n 48)) /\ w = w' := by
 subst hz
 go_enter Tryz.func69, Tryz.ntmps69
 go_wp2
 go_loop [3, 4] (fun v i => ∃ (k : Nat) (t : ByteArray), k <= n /\ i = .int .i64 k /\ v = .string t /\ Hid (t = str (List.replicate k 48))) (fun _ i => n - (intOf i).toNat)
 case atStart => exact ⟨0, ⟨#[]⟩, Nat.zero_le _, rfl, rfl, Lib.hid rfl⟩
 case round =>
  obtain ⟨k, t, hk, rfl, rfl, ht⟩ := hrel
  by_cases hlt : k < n
  ·have hts : t.size = k := by rw [ht.out, str_size]; simp
   have HTS : Hid _ := Lib.hid hts
   have htl : t.size <= 1000000 := by omega
   have ht2 : Hid (t ++ ⟨#[48]⟩ = str (List.replicate (k + 1) 48)) := Lib.hid (by
    rw [ht.out, List.replicate_succ', <- str_append]; rfl)
   clear hts ht
   go_wp2
   go_round
   case rel => exact ⟨k + 1, _, by omega, by simp, rfl, ht2⟩
   case measure => simp [intOf]; omega
  ·have hke : k = n := by omega
   subst hke
   go_wp2
   go_ret
   exact ⟨ret_str ht.out, rfl⟩
theorem str_add (s t : ByteArray) : bts (s ++ t) = bts s ++ bts t := by simp [bts]
theorem rlong_any (s : ByteArray) (z : Int) (n : Nat) (hz : z = n) (hn : n <= 1000000) (hs : s.size <= n) (w : World) : Calls Tryz.prog 206 #[.string s, .int .i64 z] w fun e w' => (∃ t : ByteArray, e = .returned (.string t) /\ t = str (List.replicate (n - s.size) 48 ++ bts s)) /\ w = w' := by
 subst hz
 go_enter Tryz.func206, Tryz.ntmps206
 go_wp2_with (go_at_call 69; refine (rzeros_any _ (n - s.size) (by omega) (by omega) _).mono ?_; rintro e w1 ⟨⟨t, rfl, ht⟩, rfl⟩; have HT : Hid _ := Lib.hid ht; have htl : t.size <= 1000000 := (by rw [ht, str_size]; simp; omega); clear ht)
 go_ret
 exact ⟨⟨_, rfl, by rw [HT.out, <- str_append, str_bts]⟩, rfl⟩
end Go.Proofs.YthoojcdjjecogaaGreatDoor
namespace Go.Proofs.YthoojcdjjecogaaGreatDoor.Dc

def wide (l : List Nat) (S : Nat) : List Nat := List.replicate (S + 1 - l.length) 48 ++ l
def dotted (l : List Nat) (S : Nat) : List Nat := if S = 0 then wide l S else (wide l S).take ((wide l S).length - S) ++ 46 :: (wide l S).drop ((wide l S).length - S)
def txt (neg : Bool) (l : List Nat) (S : Nat) : List Nat := if neg then 45 :: dotted l S else dotted l S
def unsign : List Nat -> Bool × List Nat
 | c :: r => if c = 45 then (true, r) else if c = 43 then (false, r) else (false, c :: r)
 | [] => (false, [])
def whole (l : List Nat) : List Nat := l.takeWhile fun c => decide (c ≠ 46)
def part (l : List Nat) : List Nat := (l.dropWhile fun c => decide (c ≠ 46)).drop 1
def readD (l : List Nat) : Option (Option (Bool × Nat × Nat)) :=
 if (whole (unsign l).2 ++ part (unsign l).2).all dig = true /\ whole (unsign l).2 ++ part (unsign l).2 ≠ [] then some (can (unsign l).1 (val (whole (unsign l).2 ++ part (unsign l).2)) (part (unsign l).2).length) else none
end Go.Proofs.YthoojcdjjecogaaGreatDoor.Dc
namespace Go.Proofs.YthoojcdjjecogaaGreatDoor
open Go Go.RowKit

structure Digs (s : ByteArray) : Prop where
 all : (bts s).all Dc.dig = true
 ne : bts s ≠ []
theorem Digs.bare {s : ByteArray} (h : Digs s) : Dc.bare (bts s) = Dc.digs (Dc.val (bts s)) := Dc.bare_eq h.all h.ne
theorem rbare_digs (s : ByteArray) (hs : s.size <= 1000000) (h : Digs s) (w : World) : Calls Tryz.prog 113 #[.string s] w fun e w' => (∃ t : ByteArray, e = .returned (.string t) /\ t = str (Dc.digs (Dc.val (bts s)))) /\ w = w' := by
 refine (rbare_any s hs w).mono ?_
 rintro e w' ⟨⟨t, rfl, ht⟩, rfl⟩
 exact ⟨⟨t, rfl, by rw [ht, h.bare]⟩, rfl⟩
theorem digs_lt (n : Nat) : ∀ b ∈ Dc.digs n, b < 256 := fun b hb => by
 have := Dc.dig_iff.1 (List.all_eq_true.1 (Dc.digs_dig n) b hb); omega
theorem bts_digs (n : Nat) : bts (str (Dc.digs n)) = Dc.digs n := bts_str _ (digs_lt n)

theorem bytesLess_lex : ∀ l m : List UInt8, Op.bytesLess l m = Dc.lexLt (l.map UInt8.toNat) (m.map UInt8.toNat)
 | [], [] => rfl
 | [], _ :: _ => rfl
 | _ :: _, [] => rfl
 | a :: l, b :: m => by
  have ih := bytesLess_lex l m
  unfold Op.bytesLess
  rw [ih]
  have hb : (a == b) = decide (a.toNat = b.toNat) := by
   rw [Bool.eq_iff_iff, beq_iff_eq, decide_eq_true_eq]; exact UInt8.toNat_inj.symm
  simp only [List.map_cons, Dc.lexLt, hb, UInt8.lt_iff_toNat_lt]
theorem rless_any (s t : ByteArray) (hs : s.size <= 1000000) (ht : t.size <= 1000000) (h1 : Digs s) (h2 : Digs t) (w : World) : Calls Tryz.prog 88 #[.string s, .string t] w fun e w' => e = .returned (.bool (decide (Dc.val (bts s) < Dc.val (bts t)))) /\ w = w' := by
 have C1 : Hid _ := Lib.hid (rbare_digs s hs h1)
 have C2 : Hid _ := Lib.hid (rbare_digs t ht h2)
 have tok1 : True := trivial
 go_enter Tryz.func88, Tryz.ntmps88
 go_wp2_with (first
  | (go_at_call 113; have _t := tok1; refine (C1.out _).mono ?_; rintro e w1 ⟨⟨x, rfl, hx⟩, rfl⟩; have HX : Hid _ := Lib.hid hx; clear hx tok1 _t)
  | (go_at_call 113; refine (C2.out _).mono ?_; rintro e w1 ⟨⟨y, rfl, hy⟩, rfl⟩; have HY : Hid _ := Lib.hid hy; clear hy))
 all_goals go_ret
 all_goals
  have key := Dc.lex_digs (x := Dc.val (bts s)) (y := Dc.val (bts t))
  have e1 : x.size = (Dc.digs (Dc.val (bts s))).length := by rw [HX.out, str_size]
  have e2 : y.size = (Dc.digs (Dc.val (bts t))).length := by rw [HY.out, str_size]
  have e3 : Op.bytesLess x.toList y.toList = Dc.lexLt (Dc.digs (Dc.val (bts s))) (Dc.digs (Dc.val (bts t))) := by
   rw [bytesLess_lex, <- bts_digs (Dc.val (bts s)), <- bts_digs (Dc.val (bts t)), <- HX.out, <- HY.out, ByteArray.toList_eq, ByteArray.toList_eq]; rfl
  refine ⟨ret_bool ?_, rfl⟩
  rw [<- key, <- e1, <- e2, <- e3]
  cases Op.bytesLess x.toList y.toList <;> rw [Bool.eq_iff_iff] <;> simp only [Bool.or_eq_true, Bool.and_eq_true, decide_eq_true_eq, Bool.false_eq_true, and_false, or_false, and_true, true_iff] <;> first | omega | (constructor <;> intro _ <;> first | omega | exact .inr trivial | exact .inr (by omega))

def longL (n : Nat) (l : List Nat) : List Nat := List.replicate (n - l.length) 48 ++ l
theorem longL_length {n : Nat} {l : List Nat} (h : l.length <= n) : (longL n l).length = n := by simp [longL]; omega
theorem longL_dig {n : Nat} {l : List Nat} (h : l.all Dc.dig = true) : (longL n l).all Dc.dig = true := by rw [longL, List.all_append, Dc.zeros_dig, h]; rfl
theorem longL_val (n : Nat) (l : List Nat) : Dc.val (longL n l) = Dc.val l := Dc.val_zeros_front _ _
theorem dig_lt {l : List Nat} (h : l.all Dc.dig = true) : ∀ b ∈ l, b < 256 := fun b hb => by
 have := Dc.dig_iff.1 (List.all_eq_true.1 h b hb); omega
theorem rlong_l (s : ByteArray) (z : Int) (n : Nat) (hz : z = n) (hn : n <= 1000000) (hs : s.size <= n) (h : (bts s).all Dc.dig = true) (w : World) : Calls Tryz.prog 206 #[.string s, .int .i64 z] w fun e w' => (∃ t : ByteArray, e = .returned (.string t) /\ bts t = longL n (bts s)) /\ w = w' := by
 refine (rlong_any s z n hz hn hs w).mono ?_
 rintro e w' ⟨⟨t, rfl, ht⟩, rfl⟩
 refine ⟨⟨t, rfl, ?_⟩, rfl⟩
 rw [ht]
 have := bts_str (longL n (bts s)) (dig_lt (longL_dig h))
 rw [longL, bts_length] at this
 rw [this, longL, bts_length]
theorem rplus_any (s t : ByteArray) (hs : s.size <= 1000) (ht : t.size <= 1000) (h1 : Digs s) (h2 : Digs t) (w : World) : Calls Tryz.prog 195 #[.string s, .string t] w fun e w' => (∃ r : ByteArray, e = .returned (.string r) /\ r = str (Dc.digs (Dc.val (bts s) + Dc.val (bts t)))) /\ Below w.heap.size w w' := by
 obtain ⟨m, hm⟩ : ∃ m : Nat, m = max s.size t.size := ⟨_, rfl⟩
 have hmx : max (s.size : Int) (t.size : Int) = (m : Int) := by omega
 have hsm : s.size <= m := by omega
 have htm : t.size <= m := by omega
 have hml : m <= 1000 := by omega
 have C1 : Hid (∀ w, Calls Tryz.prog 206 #[.string s, .int .i64 ((m : Int) + 1)] w fun e w' => (∃ t : ByteArray, e = .returned (.string t) /\ bts t = longL (m + 1) (bts s)) /\ w = w') := Lib.hid (rlong_l s _ (m + 1) (by omega) (by omega) (by omega) h1.all)
 have C2 : Hid (∀ w, Calls Tryz.prog 206 #[.string t, .int .i64 ((m : Int) + 1)] w fun e w' => (∃ r : ByteArray, e = .returned (.string r) /\ bts r = longL (m + 1) (bts t)) /\ w = w') := Lib.hid (rlong_l t _ (m + 1) (by omega) (by omega) (by omega) h2.all)
 have H1 : Hid _ := Lib.hid h1
 have H2 : Hid _ := Lib.hid h2
 clear hm h1 h2
 have tok1 : True := trivial
 go_enter Tryz.func195, Tryz.ntmps195
 go_wp2_with (first
  | (go_at_call 206; have _t := tok1; refine (C1.out _).mono ?_; rintro e w1 ⟨⟨x, rfl, hx⟩, rfl⟩; have HX : Hid _ := Lib.hid hx; have hxl : x.size = m + 1 := (by rw [<- bts_length, hx, longL_length (by rw [bts_length]; omega)]); clear hx tok1 _t)
  | (go_at_call 206; refine (C2.out _).mono ?_; rintro e w1 ⟨⟨y, rfl, hy⟩, rfl⟩; have HY : Hid _ := Lib.hid hy; have hyl : y.size = m + 1 := (by rw [<- bts_length, hy, longL_length (by rw [bts_length]; omega)]); clear hy; obtain ⟨cap, w1, hcv, hrow, hb1⟩ := bytes_row w x))
 go_loopw [7, 8] (fun c i wr => ∃ (k cy : Nat) (z : Int) (O : List Nat), k <= m + 1 /\ z = (k : Int) - 1 /\ i = .int .i64 z /\ c = .int .u8 (cy : Int) /\ cy <= 1 /\ Hid (O.length = m + 1) /\
   Hid (Dc.val (O.drop k) + cy * 10 ^ (m + 1 - k) = Dc.val ((bts x).drop k) + Dc.val ((bts y).drop k)) /\ Hid ((O.drop k).all Dc.dig = true) /\ Row8 wr w.heap.size cap O /\ Below w.heap.size w wr) (fun _ i _ => (intOf i + 1).toNat)
 case atStart =>
  refine ⟨m + 1, 0, (m : Int), bts x, Nat.le_refl _, by omega, rfl, rfl, by omega, Lib.hid (by rw [bts_length, hxl]), Lib.hid ?_, Lib.hid ?_, hrow, hb1⟩
  ·rw [List.drop_eq_nil_of_le (by rw [bts_length]; omega), List.drop_eq_nil_of_le (by rw [bts_length]; omega)]; simp [Dc.val]
  ·rw [List.drop_eq_nil_of_le (by rw [bts_length]; omega)]; rfl
 case round =>
  obtain ⟨k, cy, z, O, hk, hz, rfl, rfl, hcy, hO, hval, hdig, hrowO, hB⟩ := hrel
  clear hrow hcv hb1
  by_cases hk0 : k = 0
  ·subst hk0
   obtain rfl : z = -1 := by omega
   have hod : O.all Dc.dig = true := by have := hdig.out; rwa [List.drop_zero] at this
   have hfin : Hid (Dc.val O = Dc.val (bts s) + Dc.val (bts t)) := Lib.hid (by
    have h3 := hval.out
    rw [List.drop_zero, List.drop_zero, List.drop_zero, HX.out, HY.out, longL_val, longL_val] at h3
    have b1 := Dc.val_lt H1.out.all
    have b2 := Dc.val_lt H2.out.all
    rw [bts_length] at b1 b2
    have p1 : 10 ^ s.size <= 10 ^ m := Nat.pow_le_pow_right (by decide) hsm
    have p2 : 10 ^ t.size <= 10 ^ m := Nat.pow_le_pow_right (by decide) htm
    have p3 : 10 ^ (m + 1 - 0) = 10 ^ m * 10 := Nat.pow_succ ..
    rw [p3] at h3
    have hc : cy = 0 \/ cy = 1 := by omega
    rcases hc with rfl | rfl <;> omega)
   have hbo : bts (str O) = O := bts_str O (dig_lt hod)
   have hso : (str O).size <= 1000000 := by rw [str_size, hO.out]; omega
   have hst := hrowO.str
   rw [hO.out] at hst
   obtain ⟨so, hsoe⟩ : ∃ so, str O = so := ⟨_, rfl⟩
   rw [hsoe] at hst hbo hso
   have C3 : Hid _ := Lib.hid (rbare_digs so hso ⟨by rw [hbo]; exact hod, by rw [hbo]; intro h; have := hO.out; rw [h] at this; simp at this⟩)
   have HBO : Hid _ := Lib.hid hbo
   clear hod hbo hval hdig hsoe hz hk
   go_wp2_with (go_at_call 113; refine (C3.out _).mono ?_; rintro e w4 ⟨⟨r, rfl, hr⟩, rfl⟩; have HRR : Hid _ := Lib.hid hr; clear hr)
   go_ret
   first
    | exact ⟨⟨_, rfl, by rw [HRR.out, HBO.out, hfin.out]⟩, hB⟩
    | exact ⟨ret_str (by rw [HRR.out, HBO.out, hfin.out]), hB⟩
  ·obtain ⟨j, rfl⟩ : ∃ j, k = j + 1 := ⟨k - 1, by omega⟩
   obtain rfl : z = (j : Int) := by omega
   have hjx : j < x.size := by omega
   have hjy : j < y.size := by omega
   obtain ⟨a, ha⟩ : ∃ a, (x[j]'hjx).toNat = a := ⟨_, rfl⟩
   obtain ⟨b, hb⟩ : ∃ b, (y[j]'hjy).toNat = b := ⟨_, rfl⟩
   have hja : j < (bts x).length := by rw [bts_length]; exact hjx
   have hjb : j < (bts y).length := by rw [bts_length]; exact hjy
   have hag : (bts x).getD j 0 = a := by rw [<- ha, byte_eq hjx]; rfl
   have hbg : (bts y).getD j 0 = b := by rw [<- hb, byte_eq hjy]; rfl
   have had : 48 <= a /\ a <= 57 := Dc.dig_iff.1 (List.all_eq_true.1 (longL_dig H1.out.all) a (by rw [<- HX.out, <- hag, List.getD_eq_getElem?_getD, List.getElem?_eq_getElem hja]; exact List.getElem_mem hja))
   have hbd : 48 <= b /\ b <= 57 := Dc.dig_iff.1 (List.all_eq_true.1 (longL_dig H2.out.all) b (by rw [<- HY.out, <- hbg, List.getD_eq_getElem?_getD, List.getElem?_eq_getElem hjb]; exact List.getElem_mem hjb))
   obtain ⟨a1, a2⟩ := had
   obtain ⟨b1, b2⟩ := hbd
   have hcell := hrowO.at (j := j) (by rw [hO.out]; omega)
   have hfree := hrowO.open (j := j) (by rw [hO.out]; omega)
   obtain ⟨d, hd⟩ : ∃ d : Nat, d = (a - 48) + (b - 48) + cy := ⟨_, rfl⟩
   have hdi : (a : Int) - 48 + (b : Int) - 48 + (cy : Int) = (d : Int) := by omega
   have hd19 : d <= 19 := by omega
   have hval2 : Hid (Dc.val ((O.set j (48 + d % 10)).drop j) + d / 10 * 10 ^ (m + 1 - j) = Dc.val ((bts x).drop j) + Dc.val ((bts y).drop j)) := Lib.hid (Dc.add_step hO.out (by rw [bts_length, hxl]) (by rw [bts_length, hyl]) (by omega) (by rw [hag, hbg]; exact hd) hval.out)
   have hdig2 : Hid (((O.set j (48 + d % 10)).drop j).all Dc.dig = true) := Lib.hid (by
    rw [Dc.set_drop (by rw [hO.out]; omega), List.all_cons, hdig.out]; simp [Dc.dig]; omega)
   clear hag hbg hja hjb hz hk0 hd hval hdig
   go_wp2
   go_quiet (fail)
   go_wp2
   go_roundw
   case rel => exact ⟨j, d / 10, (j : Int) - 1, O.set j (48 + d % 10), by omega, rfl, rfl, rfl, by omega, Lib.hid (by rw [List.length_set]; exact hO.out), hval2, hdig2, hrowO.put j (48 + d % 10), (below_drewN hB _).setCell (p := ⟨w.heap.size, j, none⟩) (Nat.le_refl _) _⟩
   case measure => simp [intOf]

theorem rminus_any (s t : ByteArray) (hs : s.size <= 1000) (ht : t.size <= 1000) (h1 : Digs s) (h2 : Digs t) (hle : Dc.val (bts t) <= Dc.val (bts s)) (w : World) : Calls Tryz.prog 194 #[.string s, .string t] w fun e w' => (∃ r : ByteArray, e = .returned (.string r) /\ r = str (Dc.digs (Dc.val (bts s) - Dc.val (bts t)))) /\ Below w.heap.size w w' := by
 have HLE : Hid _ := Lib.hid hle
 obtain ⟨m, hm⟩ : ∃ m : Nat, m = max s.size t.size := ⟨_, rfl⟩
 have hm1 : 1 <= m := by
  have := h1.ne
  rcases Nat.eq_zero_or_pos s.size with h | h
  ·exact absurd (List.length_eq_zero_iff.1 (by rw [bts_length]; exact h)) this
  ·omega
 have hmx : max (s.size : Int) (t.size : Int) = (m : Int) := by omega
 have hsm : s.size <= m := by omega
 have htm : t.size <= m := by omega
 have hml : m <= 1000 := by omega
 have C1 : Hid (∀ w, Calls Tryz.prog 206 #[.string s, .int .i64 (m : Int)] w fun e w' => (∃ t : ByteArray, e = .returned (.string t) /\ bts t = longL m (bts s)) /\ w = w') := Lib.hid (rlong_l s _ m (by omega) (by omega) (by omega) h1.all)
 have C2 : Hid (∀ w, Calls Tryz.prog 206 #[.string t, .int .i64 (m : Int)] w fun e w' => (∃ r : ByteArray, e = .returned (.string r) /\ bts r = longL m (bts t)) /\ w = w') := Lib.hid (rlong_l t _ m (by omega) (by omega) (by omega) h2.all)
 have H1 : Hid _ := Lib.hid h1
 have H2 : Hid _ := Lib.hid h2
 clear hm h1 h2 hle
 have tok1 : True := trivial
 go_enter Tryz.func194, Tryz.ntmps194
 go_wp2_with (first
  | (go_at_call 206; have _t := tok1; refine (C1.out _).mono ?_; rintro e w1 ⟨⟨x, rfl, hx⟩, rfl⟩; have HX : Hid _ := Lib.hid hx; have hxl : x.size = m := (by rw [<- bts_length, hx, longL_length (by rw [bts_length]; omega)]); clear hx tok1 _t)
  | (go_at_call 206; refine (C2.out _).mono ?_; rintro e w1 ⟨⟨y, rfl, hy⟩, rfl⟩; have HY : Hid _ := Lib.hid hy; have hyl : y.size = m := (by rw [<- bts_length, hy, longL_length (by rw [bts_length]; omega)]); clear hy; obtain ⟨cap, w1, hcv, hrow, hb1⟩ := bytes_row w x))
 go_loopw [7, 8] (fun c i wr => ∃ (k cy : Nat) (z : Int) (O : List Nat), k <= m /\ z = (k : Int) - 1 /\ i = .int .i64 z /\ c = .int .u8 (cy : Int) /\ cy <= 1 /\ Hid (O.length = m) /\
   Hid (Dc.val (O.drop k) + Dc.val ((bts y).drop k) = Dc.val ((bts x).drop k) + cy * 10 ^ (m - k)) /\ Hid ((O.drop k).all Dc.dig = true) /\ Row8 wr w.heap.size cap O /\ Below w.heap.size w wr) (fun _ i _ => (intOf i + 1).toNat)
 case atStart =>
  refine ⟨m, 0, (m : Int) - 1, bts x, Nat.le_refl _, by omega, rfl, rfl, by omega, Lib.hid (by rw [bts_length, hxl]), Lib.hid ?_, Lib.hid ?_, hrow, hb1⟩
  ·rw [List.drop_eq_nil_of_le (by rw [bts_length]; omega), List.drop_eq_nil_of_le (by rw [bts_length]; omega)]; simp [Dc.val]
  ·rw [List.drop_eq_nil_of_le (by rw [bts_length]; omega)]; rfl
 case round =>
  obtain ⟨k, cy, z, O, hk, hz, rfl, rfl, hcy, hO, hval, hdig, hrowO, hB⟩ := hrel
  clear hrow hcv hb1
  by_cases hk0 : k = 0
  ·subst hk0
   obtain rfl : z = -1 := by omega
   have hod : O.all Dc.dig = true := by have := hdig.out; rwa [List.drop_zero] at this
   have hfin : Hid (Dc.val O = Dc.val (bts s) - Dc.val (bts t)) := Lib.hid (by
    have h3 := hval.out
    rw [List.drop_zero, List.drop_zero, List.drop_zero, HX.out, HY.out, longL_val, longL_val] at h3
    have b1 := Dc.val_lt hod
    rw [hO.out] at b1
    have hle := HLE.out
    rw [Nat.sub_zero] at h3
    have hc : cy = 0 \/ cy = 1 := by omega
    rcases hc with rfl | rfl <;> omega)
   have hbo : bts (str O) = O := bts_str O (dig_lt hod)
   have hso : (str O).size <= 1000000 := by rw [str_size, hO.out]; omega
   have hst := hrowO.str
   rw [hO.out] at hst
   obtain ⟨so, hsoe⟩ : ∃ so, str O = so := ⟨_, rfl⟩
   rw [hsoe] at hst hbo hso
   have C3 : Hid _ := Lib.hid (rbare_digs so hso ⟨by rw [hbo]; exact hod, by rw [hbo]; intro h; have := hO.out; rw [h] at this; simp at this; omega⟩)
   have HBO : Hid _ := Lib.hid hbo
   clear hod hbo hval hdig hsoe hz hk
   go_wp2_with (go_at_call 113; refine (C3.out _).mono ?_; rintro e w4 ⟨⟨r, rfl, hr⟩, rfl⟩; have HRR : Hid _ := Lib.hid hr; clear hr)
   go_ret
   first
    | exact ⟨⟨_, rfl, by rw [HRR.out, HBO.out, hfin.out]⟩, hB⟩
    | exact ⟨ret_str (by rw [HRR.out, HBO.out, hfin.out]), hB⟩
  ·obtain ⟨j, rfl⟩ : ∃ j, k = j + 1 := ⟨k - 1, by omega⟩
   obtain rfl : z = (j : Int) := by omega
   have hjx : j < x.size := by omega
   have hjy : j < y.size := by omega
   obtain ⟨a, ha⟩ : ∃ a, (x[j]'hjx).toNat = a := ⟨_, rfl⟩
   obtain ⟨b, hb⟩ : ∃ b, (y[j]'hjy).toNat = b := ⟨_, rfl⟩
   have hja : j < (bts x).length := by rw [bts_length]; exact hjx
   have hjb : j < (bts y).length := by rw [bts_length]; exact hjy
   have hag : (bts x).getD j 0 = a := by rw [<- ha, byte_eq hjx]; rfl
   have hbg : (bts y).getD j 0 = b := by rw [<- hb, byte_eq hjy]; rfl
   have had : 48 <= a /\ a <= 57 := Dc.dig_iff.1 (List.all_eq_true.1 (longL_dig H1.out.all) a (by rw [<- HX.out, <- hag, List.getD_eq_getElem?_getD, List.getElem?_eq_getElem hja]; exact List.getElem_mem hja))
   have hbd : 48 <= b /\ b <= 57 := Dc.dig_iff.1 (List.all_eq_true.1 (longL_dig H2.out.all) b (by rw [<- HY.out, <- hbg, List.getD_eq_getElem?_getD, List.getElem?_eq_getElem hjb]; exact List.getElem_mem hjb))
   obtain ⟨a1, a2⟩ := had
   obtain ⟨b1, b2⟩ := hbd
   have hcell := hrowO.at (j := j) (by rw [hO.out]; omega)
   have hfree := hrowO.open (j := j) (by rw [hO.out]; omega)
   obtain ⟨d, hd⟩ : ∃ d : Nat, d = 10 + a - b - cy := ⟨_, rfl⟩
   have hdi : 10 + (a : Int) - (b : Int) - (cy : Int) = (d : Int) := by omega
   have hd19 : d <= 19 := by omega
   have hval2 : Hid (Dc.val ((O.set j (48 + d % 10)).drop j) + Dc.val ((bts y).drop j) = Dc.val ((bts x).drop j) + (1 - d / 10) * 10 ^ (m - j)) := Lib.hid (Dc.sub_step hO.out (by rw [bts_length, hxl]) (by rw [bts_length, hyl]) (by omega) (by rw [hag]; exact a1) (by rw [hbg]; exact b1) (by rw [hbg]; exact b2) (by rw [hag]; exact a2) hcy (by rw [hag, hbg]; omega) hval.out)
   have hdig2 : Hid (((O.set j (48 + d % 10)).drop j).all Dc.dig = true) := Lib.hid (by
    rw [Dc.set_drop (by rw [hO.out]; omega), List.all_cons, hdig.out]; simp [Dc.dig]; omega)
   clear hag hbg hja hjb hz hk0 hd hval hdig
   go_wp2
   go_quiet (fail)
   go_wp2
   go_roundw
   case rel => exact ⟨j, 1 - d / 10, (j : Int) - 1, O.set j (48 + d % 10), by omega, rfl, rfl, by congr 1; omega, by omega, Lib.hid (by rw [List.length_set]; exact hO.out), hval2, hdig2, hrowO.put j (48 + d % 10), (below_drewN hB _).setCell (p := ⟨w.heap.size, j, none⟩) (Nat.le_refl _) _⟩
   case measure => simp [intOf]
theorem take_val {s : ByteArray} {k : Nat} (h : k < s.size) : Dc.val ((bts s).take (k + 1)) = Dc.val ((bts s).take k) * 10 + ((s[k]'h).toNat - 48) := by
 rw [bts_take_succ s k h, Dc.val_snoc]

theorem rminus_val (s t : ByteArray) (hs : s.size <= 1000) (ht : t.size <= 1000) (h1 : Digs s) (h2 : Digs t) (hle : Dc.val (bts t) <= Dc.val (bts s)) (w : World) : Calls Tryz.prog 194 #[.string s, .string t] w fun e w' => (∃ r : ByteArray, e = .returned (.string r) /\ bts r = Dc.digs (Dc.val (bts s) - Dc.val (bts t))) /\ Below w.heap.size w w' := by
 refine (rminus_any s t hs ht h1 h2 hle w).mono ?_
 rintro e w' ⟨⟨r, rfl, rfl⟩, hb⟩
 exact ⟨⟨_, rfl, bts_digs _⟩, hb⟩
theorem rless_true (s t : ByteArray) (hs : s.size <= 1000000) (ht : t.size <= 1000000) (h1 : Digs s) (h2 : Digs t) (h : Dc.val (bts s) < Dc.val (bts t)) (w : World) : Calls Tryz.prog 88 #[.string s, .string t] w fun e w' => e = .returned (.bool true) /\ w = w' :=
 (rless_any s t hs ht h1 h2 w).mono fun _ _ ⟨he, hw⟩ => ⟨by rw [he, decide_eq_true h], hw⟩
theorem rless_false (s t : ByteArray) (hs : s.size <= 1000000) (ht : t.size <= 1000000) (h1 : Digs s) (h2 : Digs t) (h : ¬ Dc.val (bts s) < Dc.val (bts t)) (w : World) : Calls Tryz.prog 88 #[.string s, .string t] w fun e w' => e = .returned (.bool false) /\ w = w' :=
 (rless_any s t hs ht h1 h2 w).mono fun _ _ ⟨he, hw⟩ => ⟨by rw [he, decide_eq_false h], hw⟩
theorem div_step {v M x j dg : Nat} (hx : x < M) (h : x + j * M = v % M * 10 + dg) : (v * 10 + dg) / M = v / M * 10 + j /\ (v * 10 + dg) % M = x := by
 have e : v * 10 + dg = x + M * (v / M * 10 + j) := by
  have := Nat.div_add_mod v M
  have e1 : v * 10 = M * (v / M) * 10 + v % M * 10 := by rw [<- Nat.add_mul, this]
  rw [Nat.mul_add, <- Nat.mul_assoc, Nat.mul_comm M j]; omega
 rw [e]
 exact ⟨by rw [Nat.add_mul_div_left _ _ (by omega), Nat.div_eq_of_lt hx, Nat.zero_add], by rw [Nat.add_mul_mod_self_left, Nat.mod_eq_of_lt hx]⟩
theorem ret_str2 {s t s' t' : ByteArray} (h : s = s') (h2 : t = t') : Ending.returned (.tuple #[.string s, .string t]) = .returned (.tuple #[.string s', .string t']) := by rw [h, h2]

theorem rover_any (s t : ByteArray) (hs : s.size <= 200) (ht : t.size <= 200) (h1 : Digs s) (h2 : Digs t) (hM : 0 < Dc.val (bts t)) (w : World) : Calls Tryz.prog 177 #[.string s, .string t] w fun e w' =>
  (∃ q r : ByteArray, e = .returned (.tuple #[.string q, .string r]) /\ q = str (Dc.digs (Dc.val (bts s) / Dc.val (bts t))) /\ r = str (Dc.digs (Dc.val (bts s) % Dc.val (bts t)))) /\ Below w.heap.size w w' := by
 have H1 : Hid _ := Lib.hid h1
 have H2 : Hid _ := Lib.hid h2
 have HM : Hid _ := Lib.hid hM
 have hmb : Hid (Dc.val (bts t) < 10 ^ t.size) := Lib.hid (by have := Dc.val_lt h2.all; rwa [bts_length] at this)
 clear h1 h2 hM
 have ht1 : t.size <= 1000 := by omega
 have ht2 : t.size <= 1000000 := by omega
 go_enter Tryz.func177, Tryz.ntmps177
 go_wp2
 go_loopw [6, 7, 8] (fun v u i wr => ∃ (k : Nat) (S R : ByteArray), k <= s.size /\ i = .int .i64 k /\ v = .string S /\ u = .string R /\ S.size <= 200 /\ Hid (S.size = k) /\ R.size <= 1000 /\ Hid ((bts S).all Dc.dig = true) /\ Hid (Dc.val (bts S) = Dc.val ((bts s).take k) / Dc.val (bts t)) /\ Hid (bts R = Dc.digs (Dc.val ((bts s).take k) % Dc.val (bts t))) /\ Below w.heap.size w wr) (fun _ _ i _ => s.size - (intOf i).toNat)
 case atStart => exact ⟨0, ⟨#[]⟩, ⟨#[48]⟩, Nat.zero_le _, rfl, rfl, rfl, by decide, Lib.hid rfl, by decide, Lib.hid rfl, Lib.hid (by simp [Dc.val]; decide), Lib.hid (by simp [Dc.val]; decide), Below.refl _ _⟩
 case round =>
  obtain ⟨k, S, R, hk, rfl, rfl, rfl, hS, hSk, hR, hdS, hvS, hbR, hB⟩ := hrel
  by_cases hlt : k < s.size
  ·obtain ⟨c, hc⟩ : ∃ c, (s[k]'hlt).toNat = c := ⟨_, rfl⟩
   have hcd : 48 <= c /\ c <= 57 := Dc.dig_iff.1 (List.all_eq_true.1 H1.out.all c (by rw [<- hc, <- bts_get s k hlt]; exact List.getElem_mem _))
   obtain ⟨c1, c2⟩ := hcd
   obtain ⟨v, hv⟩ : ∃ v, Dc.val ((bts s).take k) = v := ⟨_, rfl⟩
   have hv' : Hid (Dc.val ((bts s).take (k + 1)) = v * 10 + (c - 48)) := Lib.hid (by rw [take_val hlt, hc, hv])
   rw [hv] at hvS hbR
   obtain ⟨M, hMe⟩ : ∃ M, Dc.val (bts t) = M := ⟨_, rfl⟩
   obtain ⟨x1, hx1⟩ : ∃ x, s.extract k (k + 1) = x := ⟨_, rfl⟩
   have hbx : bts x1 = [c] := by
    rw [<- hx1, bts_extract, List.drop_take, Nat.add_sub_cancel_left, Dc.drop_getD (by rw [bts_length]; exact hlt), <- hc, byte_eq hlt]; rfl
   obtain ⟨R1, hR1⟩ : ∃ R1, R ++ x1 = R1 := ⟨_, rfl⟩
   have hbR1 : bts R1 = Dc.digs (v % Dc.val (bts t)) ++ [c] := by rw [<- hR1, str_add, hbR.out, hbx]
   have hRd : Hid (Digs R1) := Lib.hid ⟨by rw [hbR1, List.all_append, Dc.digs_dig]; simp [Dc.dig, c1, c2], by rw [hbR1]; simp⟩
   have hRv : Hid (Dc.val (bts R1) = v % Dc.val (bts t) * 10 + (c - 48)) := Lib.hid (by rw [hbR1, Dc.val_snoc, Dc.val_digs])
   have hxs : x1.size = 1 := by rw [<- bts_length, hbx]; rfl
   have hRl : R1.size <= 1000000 := by rw [<- bts_length, <- hR1, str_add, List.length_append, bts_length, bts_length]; omega
   have hx1s : x1.size <= 1 := by omega
   have HV : Hid _ := Lib.hid hv
   have HMe : Hid _ := Lib.hid hMe
   clear hbx hbR1 hbR hv hMe hxs
   go_wp2_with (go_at_call 113; refine (rbare_digs R1 hRl hRd.out _).mono ?_; rintro e w4 ⟨⟨R2, rfl, hr⟩, rfl⟩; have HR2 : Hid _ := Lib.hid hr; clear hr)
   obtain ⟨wo, rfl⟩ : ∃ wo : World, wo = wr := ⟨_, rfl⟩
   go_loopw [7, 9] (fun u q wr => ∃ (j z x : Nat) (X : ByteArray), z = 48 + j /\ z <= 57 /\ q = .int .u8 (z : Int) /\ u = .string X /\ X.size <= 1000 /\ Hid (bts X = Dc.digs x) /\ Hid (x + j * M = v % M * 10 + (c - 48)) /\ Below w.heap.size w wr) (fun u _ _ => match u with | .string X => Dc.val (bts X) | _ => 0)
   case atStart =>
    have hb2 : bts R2 = Dc.digs (v % M * 10 + (c - 48)) := by rw [HR2.out, bts_digs, hRv.out, HMe.out]
    refine ⟨0, 48, _, R2, rfl, by omega, rfl, rfl, ?_, Lib.hid hb2, Lib.hid (by omega), hB⟩
    have hm : v % M < M := Nat.mod_lt _ (by rw [<- HMe.out]; exact HM.out)
    have h3 : v % M * 10 + (c - 48) < 10 ^ (t.size + 1) := by
     have := hmb.out
     rw [HMe.out] at this
     rw [Nat.pow_succ]; omega
    have h4 := (Dc.digs_length (n := v % M * 10 + (c - 48)) (k := t.size + 1) (by omega)).2 h3
    rw [<- bts_length, hb2]; omega
   case round =>
    obtain ⟨j, z, x, X, hz, hz57, rfl, rfl, hX, hbX, hxj, hB2⟩ := hrel
    have HZ : Hid _ := Lib.hid hz
    have hXd : Hid (Digs X) := Lib.hid ⟨by rw [hbX.out]; exact Dc.digs_dig x, by rw [hbX.out]; exact Dc.digs_ne x⟩
    have hXv : Hid (Dc.val (bts X) = x) := Lib.hid (by rw [hbX.out, Dc.val_digs])
    have hX2 : X.size <= 1000000 := by omega
    have hmod : Hid (v % M < M) := Lib.hid (Nat.mod_lt _ (by rw [<- HMe.out]; exact HM.out))
    clear hz
    by_cases hxM : x < M
    ·have C : Hid (Dc.val (bts X) < Dc.val (bts t)) := Lib.hid (by rw [hXv.out, HMe.out]; exact hxM)
     have HxM : Hid _ := Lib.hid hxM
     have es : (convert 79 9 (.slice (some ⟨wr.heap.size, 0, none⟩) 1 1)).run Tryz.prog (wr.alloc (.cells #[.int .u8 (z : Int)] 5)) = .ok (.string (str [z])) (wr.alloc (.cells #[.int .u8 (z : Int)] 5)) := run_str_new wr [(z : Int)] 1
     obtain ⟨S1, hS1⟩ : ∃ S1, S ++ str [z] = S1 := ⟨_, rfl⟩
     have hbS1 : bts S1 = bts S ++ [z] := by rw [<- hS1, str_add, bts_str [z] (by simp; omega)]
     have hzs : (str [z]).size <= 1 := Nat.le_of_eq (str_size _)
     have hS1l : S1.size = S.size + 1 := by rw [<- bts_length, hbS1, List.length_append, bts_length]; rfl
     have HS1 : Hid (S1.size = k + 1) := Lib.hid (by rw [hS1l, hSk.out])
     have HS1d : Hid ((bts S1).all Dc.dig = true) := Lib.hid (by rw [hbS1, List.all_append, hdS.out]; simp [Dc.dig]; have := HZ.out; omega)
     have hds := div_step (v := v) (dg := c - 48) hxM hxj.out
     have HS1v : Hid (Dc.val (bts S1) = Dc.val ((bts s).take (k + 1)) / Dc.val (bts t)) := Lib.hid (by
      rw [hbS1, Dc.val_snoc, hvS.out, hv'.out, HMe.out, hds.1]; have := HZ.out; omega)
     have HXb : Hid (bts X = Dc.digs (Dc.val ((bts s).take (k + 1)) % Dc.val (bts t))) := Lib.hid (by rw [hbX.out, hv'.out, HMe.out, hds.2])
     clear hxM hbS1 hS1l hds hXv hbX hxj
     go_wp2_with (go_at_call 88; refine (rless_true X t hX2 ht2 hXd.out H2.out C.out _).mono ?_; rintro e w3 ⟨rfl, rfl⟩)
     go_roundw
     case rel => exact ⟨k + 1, S1, X, by omega, by simp, rfl, rfl, by have := HS1.out; omega, HS1, hX, HS1d, HS1v, HXb, hB2.alloc hB2.size _⟩
     case measure => simp [intOf]; omega
    ·have C : Hid (¬ Dc.val (bts X) < Dc.val (bts t)) := Lib.hid (by rw [hXv.out, HMe.out]; exact hxM)
     have C' : Hid (Dc.val (bts t) <= Dc.val (bts X)) := Lib.hid (by have := C.out; omega)
     have hj9 : z < 57 := by
      have h5 := hxj.out
      have h6 := hmod.out
      have h7 := HZ.out
      have h8 : j * M + M <= v % M * 10 + (c - 48) := by omega
      rcases Nat.lt_or_ge j 9 with h9 | h9
      ·omega
      ·have : 9 * M <= j * M := Nat.mul_le_mul_right _ h9
       omega
     have hMp : Hid (0 < M) := Lib.hid (by rw [<- HMe.out]; exact HM.out)
     have hge : Hid (M <= x) := Lib.hid (by omega)
     clear hxM
     go_wp2_with (first
      | (go_at_call 88; refine (rless_false X t hX2 ht2 hXd.out H2.out C.out _).mono ?_; rintro e w3 ⟨rfl, rfl⟩)
      | (go_at_call 194; refine (rminus_val X t hX ht1 hXd.out H2.out C'.out _).mono ?_; rintro e w3 ⟨⟨X2, rfl, hx2⟩, hb3⟩; have HX2 : Hid _ := Lib.hid hx2; clear hx2))
     have hx2 : bts X2 = Dc.digs (x - M) := by rw [HX2.out, hXv.out, HMe.out]
     go_roundw
     case rel =>
      refine ⟨j + 1, z + 1, x - M, X2, by have := HZ.out; omega, by omega, by simp, rfl, ?_, Lib.hid hx2, Lib.hid ?_, hB2.trans (hb3.mono hB2.size)⟩
      ·have h9 : (Dc.digs (x - M)).length <= (Dc.digs x).length := (Dc.digs_length (Dc.digs_pos x)).2 (by
        have := (Dc.digs_length (n := x) (Dc.digs_pos x)).1 (Nat.le_refl _); omega)
       rw [<- bts_length, hx2]
       rw [<- bts_length, hbX.out] at hX
       omega
      ·have := hxj.out; have := hge.out; rw [Nat.succ_mul]; omega
     case measure =>
      simp only [hx2, Dc.val_digs, hXv.out]
      have := hge.out; have := hMp.out; omega
  ·have hke : (bts s).take k = bts s := List.take_of_length_le (by rw [bts_length]; omega)
   rw [hke] at hvS hbR
   have hSz : S.size <= 1000000 := by omega
   have hSd : Hid (Digs S) := Lib.hid ⟨hdS.out, fun h => by
    have h3 := hSk.out
    rw [<- bts_length, h] at h3
    have h4 := H1.out.ne
    exact h4 (List.length_eq_zero_iff.1 (by rw [bts_length]; simp at h3; omega))⟩
   clear hke
   go_wp2_with (go_at_call 113; refine (rbare_digs S hSz hSd.out _).mono ?_; rintro e w4 ⟨⟨r, rfl, hr⟩, rfl⟩; have HRR : Hid _ := Lib.hid hr; clear hr)
   go_ret2
   first
    | exact ⟨⟨_, _, rfl, by rw [HRR.out, hvS.out], by rw [<- hbR.out, str_bts]⟩, hB⟩
    | exact ⟨ret_str2 (by rw [HRR.out, hvS.out]) (by rw [<- hbR.out, str_bts]), hB⟩
end Go.Proofs.YthoojcdjjecogaaGreatDoor
namespace Go.Proofs.YthoojcdjjecogaaGreatDoor.Dc

abbrev D := Bool × Nat × Nat
def ok (a : D) : Prop := isCan a.1 a.2.1 a.2.2
def at_ (K : Nat) (a : D) : Int := sg a.1 a.2.1 * 10 ^ (K - a.2.2)
theorem p10 (n : Nat) : (0 : Int) < 10 ^ n := Int.pow_pos (by decide)
theorem canI_up {m : Int} {S K : Nat} (h : S <= K) : canI m S = canI (m * 10 ^ (K - S)) K :=
 canI_congr (by rw [Int.mul_assoc, <- Int.pow_add, show K - S + S = K by omega])
theorem can_scale {neg n : Bool} {v S u T : Nat} (h : can neg v S = some (n, u, T)) : T <= S := by
 unfold can at h
 split at h
 ·cases h; omega
 ·split at h
  ·cases h
  ·cases h; exact (strip_spec S v).1
theorem canI_at {M : Int} {K : Nat} {x : D} (h : canI M K = some x) : ok x /\ x.2.2 <= K /\ at_ K x = M := by
 obtain ⟨n, u, T⟩ := x
 obtain ⟨h1, h2⟩ := canI_is h
 have h3 : T <= K := can_scale h
 refine ⟨h1, h3, ?_⟩
 unfold at_
 simp only
 have e : sg n u * 10 ^ (K - T) * 10 ^ T = M * 10 ^ T := by
  rw [Int.mul_assoc, <- Int.pow_add, show K - T + T = K by omega, h2]
 exact Int.eq_of_mul_eq_mul_right (Int.ne_of_gt (p10 T)) e
theorem at_canI {K : Nat} {x : D} (h : ok x) (hK : x.2.2 <= K) : canI (at_ K x) K = some x := by
 unfold at_
 rw [<- canI_up hK]
 exact sg_canI h
theorem at_up {K L : Nat} {x : D} (h : x.2.2 <= K) (hL : K <= L) : at_ L x = at_ K x * 10 ^ (L - K) := by
 unfold at_
 rw [Int.mul_assoc, <- Int.pow_add, show K - x.2.2 + (L - K) = L - x.2.2 by omega]
def addD (a b : D) : Option D := canI (at_ (max a.2.2 b.2.2) a + at_ (max a.2.2 b.2.2) b) (max a.2.2 b.2.2)
def opp (a : D) : D := (!a.1 && decide (a.2.1 ≠ 0), a.2.1, a.2.2)
def subD (a b : D) : Option D := addD a (opp b)
def mulD (a b : D) : Option D := canI (sg a.1 a.2.1 * sg b.1 b.2.1) (a.2.2 + b.2.2)
def cmpD (a b : D) : Int := if at_ (max a.2.2 b.2.2) a < at_ (max a.2.2 b.2.2) b then -1 else if at_ (max a.2.2 b.2.2) b < at_ (max a.2.2 b.2.2) a then 1 else 0
theorem sg_opp (n : Bool) (v : Nat) : sg (!n && decide (v ≠ 0)) v = -sg n v := by
 unfold sg
 by_cases hv : v = 0
 ·subst hv; cases n <;> simp
 ·cases n <;> simp [hv]
theorem at_opp (K : Nat) (a : D) : at_ K (opp a) = -at_ K a := by
 unfold at_ opp; simp only; rw [sg_opp, Int.neg_mul]
theorem opp_ok {a : D} (h : ok a) : ok (opp a) := by
 obtain ⟨n, v, S⟩ := a
 obtain ⟨h1, h2, h3, h4⟩ := h
 refine ⟨h1, h2, fun h0 => ?_, h4⟩
 simp only [opp] at h0 ⊢
 exact ⟨by simp [h0], (h3 h0).2⟩
theorem addD_at {K : Nat} {a b : D} (ha : a.2.2 <= K) (hb : b.2.2 <= K) : addD a b = canI (at_ K a + at_ K b) K := by
 unfold addD
 rw [canI_up (K := K) (by omega), Int.add_mul, <- at_up (by omega) (by omega), <- at_up (by omega) (by omega)]
theorem subD_at {K : Nat} {a b : D} (ha : a.2.2 <= K) (hb : b.2.2 <= K) : subD a b = canI (at_ K a - at_ K b) K := by
 unfold subD
 rw [addD_at (K := K) ha (by exact hb), at_opp, Int.sub_eq_add_neg]
theorem cmpD_at {K : Nat} {a b : D} (ha : a.2.2 <= K) (hb : b.2.2 <= K) : cmpD a b = if at_ K a < at_ K b then -1 else if at_ K b < at_ K a then 1 else 0 := by
 have e1 : at_ K a = at_ (max a.2.2 b.2.2) a * 10 ^ (K - max a.2.2 b.2.2) := at_up (by omega) (by omega)
 have e2 : at_ K b = at_ (max a.2.2 b.2.2) b * 10 ^ (K - max a.2.2 b.2.2) := at_up (by omega) (by omega)
 have hp := p10 (K - max a.2.2 b.2.2)
 unfold cmpD
 rw [e1, e2]
 generalize at_ (max a.2.2 b.2.2) a = x
 generalize at_ (max a.2.2 b.2.2) b = y
 have lt : ∀ x y : Int, (x * 10 ^ (K - max a.2.2 b.2.2) < y * 10 ^ (K - max a.2.2 b.2.2)) ↔ x < y := fun x y => ⟨fun h => Int.lt_of_mul_lt_mul_right h (Int.le_of_lt hp), fun h => Int.mul_lt_mul_of_pos_right h hp⟩
 by_cases h1 : x < y
 ·rw [if_pos h1, if_pos ((lt x y).2 h1)]
 ·rw [if_neg h1, if_neg (fun h => h1 ((lt x y).1 h))]
  by_cases h2 : y < x
  ·rw [if_pos h2, if_pos ((lt y x).2 h2)]
  ·rw [if_neg h2, if_neg (fun h => h2 ((lt y x).1 h))]
theorem add_comm (a b : D) : addD a b = addD b a := by
 rw [addD_at (K := max a.2.2 b.2.2) (by omega) (by omega), addD_at (K := max a.2.2 b.2.2) (by omega) (by omega), Int.add_comm]
theorem mul_comm (a b : D) : mulD a b = mulD b a := by unfold mulD; rw [Int.mul_comm, Nat.add_comm]
theorem at_neg {K : Nat} {x : D} (h : ok x) : at_ K x < 0 ↔ x.1 = true := by
 have hp := p10 (K - x.2.2)
 obtain ⟨n, v, S⟩ := x
 have h3 := h.2.2.1
 simp only at h3
 unfold at_ sg
 simp only at hp ⊢
 constructor
 ·intro hlt
  cases n with
  | true => rfl
  | false =>
   rw [if_neg (by decide)] at hlt
   have := Int.mul_nonneg (Int.natCast_nonneg v) (Int.le_of_lt hp)
   omega
 ·intro hn
  subst hn
  have hv : v ≠ 0 := fun h0 => by have := (h3 h0).1; cases this
  rw [if_pos rfl]
  exact Int.mul_neg_of_neg_of_pos (by omega) hp
end Go.Proofs.YthoojcdjjecogaaGreatDoor.Dc
namespace Go.Proofs.YthoojcdjjecogaaGreatDoor.Dc

def quo (a b : D) (sc : Nat) : Nat := (a.2.1 * 10 ^ (max a.2.2 b.2.2 - a.2.2 + sc)) / (b.2.1 * 10 ^ (max a.2.2 b.2.2 - b.2.2))
def divD (a b : D) (sc : Nat) : Option D := can (a.1 != b.1) (quo a b sc) sc
theorem sg_pow (x : Bool) (m k : Nat) : sg x m * 10 ^ k = sg x (m * 10 ^ k) := by
 cases x <;> simp [sg, Int.natCast_mul, Int.natCast_pow, Int.neg_mul]
theorem at_sg (K : Nat) (a : D) : at_ K a = sg a.1 (a.2.1 * 10 ^ (K - a.2.2)) := sg_pow _ _ _
theorem strip_le (S : Nat) : ∀ v, (strip v S).1 <= v := by
 induction S with
 | zero => intro v; exact Nat.le_refl _
 | succ S ih =>
  intro v; unfold strip
  by_cases h : v % 10 = 0
  ·rw [if_pos h]; exact Nat.le_trans (ih _) (Nat.div_le_self _ _)
  ·rw [if_neg h]; exact Nat.le_refl _
theorem can_some {neg : Bool} {v S : Nat} (hv : v < 10 ^ 60) (hS : S <= 60) : ∃ x, can neg v S = some x := by
 unfold can
 by_cases h0 : v = 0
 ·rw [if_pos h0]; exact ⟨_, rfl⟩
 ·have h1 := strip_le S v
  have h2 := (strip_spec S v).1
  have h3 := (digs_length (n := (strip v S).1) (k := 60) (by decide)).2 (Nat.lt_of_le_of_lt h1 hv)
  rw [if_neg h0, if_neg (by omega)]; exact ⟨_, rfl⟩
theorem canI_some {m : Int} {S : Nat} (hv : m.natAbs < 10 ^ 60) (hS : S <= 60) : ∃ x, canI m S = some x := can_some hv hS
end Go.Proofs.YthoojcdjjecogaaGreatDoor.Dc
