/-
  Part 4 of the proof: what functions return, and plain facts (Dnum Dbig Rstr Dtext Rless Rplus Rminus Rtimes Rover Dlaws Dround Dsum Mpt Ponly BaseW). Conditions: each theorem names its own.
-/
import Derived.Test.YthoojcdjjecogaaGreatDoorG03
import Derived.WalkLawsBesides
import Derived.IntWalk
set_option maxRecDepth 1000000
set_option maxHeartbeats 16000000
namespace Go.Proofs.YthoojcdjjecogaaGreatDoor.Dc

def dig (c : Nat) : Bool := decide (48 <= c) && decide (c <= 57)
theorem dig_iff {c : Nat} : dig c = true ↔ 48 <= c /\ c <= 57 := by simp [dig]
def val (l : List Nat) : Nat := l.foldl (fun a c => a * 10 + (c - 48)) 0
theorem val_nil : val [] = 0 := rfl
theorem val_snoc (l : List Nat) (c : Nat) : val (l ++ [c]) = val l * 10 + (c - 48) := by simp [val]
theorem val_from (l : List Nat) : ∀ a, l.foldl (fun a c => a * 10 + (c - 48)) a = a * 10 ^ l.length + val l := by
 induction l with
 | nil => intro a; simp [val]
 | cons c l ih =>
  intro a
  have h : val (c :: l) = (0 * 10 + (c - 48)) * 10 ^ l.length + val l := by rw [<- ih]; rfl
  rw [List.foldl_cons, ih, h, List.length_cons, Nat.pow_succ, Nat.zero_mul, Nat.zero_add, Nat.add_mul, Nat.add_assoc, Nat.mul_assoc, Nat.mul_comm 10]
theorem val_append (l m : List Nat) : val (l ++ m) = val l * 10 ^ m.length + val m := by
 rw [val, List.foldl_append, val_from]; rfl
theorem val_cons (c : Nat) (l : List Nat) : val (c :: l) = (c - 48) * 10 ^ l.length + val l := by
 have h := val_append [c] l
 simpa [val] using h
theorem val_lt {l : List Nat} (h : l.all dig = true) : val l < 10 ^ l.length := by
 induction l with
 | nil => simp [val]
 | cons c l ih =>
  simp only [List.all_cons, Bool.and_eq_true] at h
  have hc := dig_iff.1 h.1
  have := ih h.2
  rw [val_cons, List.length_cons, Nat.pow_succ]
  have h9 : (c - 48) * 10 ^ l.length <= 9 * 10 ^ l.length := Nat.mul_le_mul_right _ (by omega)
  omega
theorem val_zeros (n : Nat) : val (List.replicate n 48) = 0 := by
 induction n with
 | zero => rfl
 | succ n ih => rw [List.replicate_succ, val_cons, ih]; simp
theorem val_zeros_front (n : Nat) (l : List Nat) : val (List.replicate n 48 ++ l) = val l := by rw [val_append, val_zeros]; simp
theorem val_zeros_back (l : List Nat) (n : Nat) : val (l ++ List.replicate n 48) = val l * 10 ^ n := by rw [val_append, val_zeros, List.length_replicate]; rfl
theorem zeros_dig (n : Nat) : (List.replicate n 48).all dig = true := by
 rw [List.all_eq_true]; intro c hc; rw [List.eq_of_mem_replicate hc]; rfl

def digsF : Nat -> Nat -> List Nat
 | 0, _ => []
 | f + 1, n => if n < 10 then [48 + n] else digsF f (n / 10) ++ [48 + n % 10]
def digs (n : Nat) : List Nat := digsF (n + 1) n
theorem digsF_eq (f : Nat) : ∀ g n, n < f -> n < g -> digsF f n = digsF g n := by
 induction f with
 | zero => intro g n h; omega
 | succ f ih =>
  intro g n hf hg
  cases g with
  | zero => omega
  | succ g =>
   unfold digsF
   by_cases h : n < 10
   ·rw [if_pos h, if_pos h]
   ·rw [if_neg h, if_neg h, ih g (n / 10) (by omega) (by omega)]
theorem digs_low {n : Nat} (h : n < 10) : digs n = [48 + n] := by unfold digs digsF; rw [if_pos h]
theorem digs_step {n : Nat} (h : 10 <= n) : digs n = digs (n / 10) ++ [48 + n % 10] := by
 unfold digs
 rw [digsF, if_neg (by omega), digsF_eq n (n / 10 + 1) (n / 10) (by omega) (by omega)]
theorem digs_zero : digs 0 = [48] := rfl
theorem digs_ne (n : Nat) : digs n ≠ [] := by
 by_cases h : n < 10
 ·rw [digs_low h]; simp
 ·rw [digs_step (by omega)]; simp
theorem digs_induct {P : Nat -> Prop} (low : ∀ n, n < 10 -> P n) (step : ∀ n, 10 <= n -> P (n / 10) -> P n) : ∀ n, P n := by
 intro n
 induction n using Nat.strongRecOn with
 | ind n ih =>
  by_cases h : n < 10
  ·exact low n h
  ·exact step n (by omega) (ih (n / 10) (by omega))
theorem val_digs (n : Nat) : val (digs n) = n := by
 induction n using digs_induct with
 | low n h => rw [digs_low h]; simp [val]
 | step n h ih => rw [digs_step h, val_snoc, ih]; omega
theorem digs_dig (n : Nat) : (digs n).all dig = true := by
 induction n using digs_induct with
 | low n h => rw [digs_low h]; simp [dig]; omega
 | step n h ih => rw [digs_step h, List.all_append, ih]; simp [dig]; omega
theorem digs_head {n : Nat} (h : n ≠ 0) : (digs n).head? ≠ some 48 := by
 induction n using digs_induct with
 | low n h2 => rw [digs_low h2]; simp; omega
 | step n h2 ih =>
  rw [digs_step h2]
  have hne := digs_ne (n / 10)
  have := ih (by omega)
  cases hd : digs (n / 10) with
  | nil => exact absurd hd hne
  | cons c r => rw [hd] at this; simpa using this
theorem digs_last (n : Nat) : (digs n).getLast? = some (48 + n % 10) := by
 by_cases h : n < 10
 ·rw [digs_low h]; simp; omega
 ·rw [digs_step (by omega)]; simp
theorem digs_pos (n : Nat) : 1 <= (digs n).length := by
 cases h : digs n with
 | nil => exact absurd h (digs_ne n)
 | cons _ _ => simp
theorem digs_length {n k : Nat} (hk : 1 <= k) : (digs n).length <= k ↔ n < 10 ^ k := by
 constructor
 ·intro h
  have h1 := val_lt (digs_dig n)
  rw [val_digs] at h1
  exact Nat.lt_of_lt_of_le h1 (Nat.pow_le_pow_right (by decide) h)
 ·induction n using digs_induct generalizing k with
  | low n h => intro _; rw [digs_low h]; simpa using hk
  | step n h ih =>
   intro hn
   rw [digs_step h, List.length_append]
   have hk2 : 2 <= k := by
    rcases Nat.lt_or_ge k 2 with h1 | h1
    ·have : k = 1 := by omega
     subst this; simp at hn; omega
    ·exact h1
   obtain ⟨j, rfl⟩ : ∃ j, k = j + 1 := ⟨k - 1, by omega⟩
   have := ih (k := j) (by omega) (by rw [Nat.pow_succ] at hn; omega)
   simp; omega
theorem snoc_induct {P : List Nat -> Prop} (nil : P []) (snoc : ∀ m c, P m -> P (m ++ [c])) : ∀ l, P l := by
 have : ∀ n (l : List Nat), l.length = n -> P l := by
  intro n
  induction n with
  | zero => intro l h; rw [List.length_eq_zero_iff.1 h]; exact nil
  | succ n ih =>
   intro l h
   rcases List.eq_nil_or_concat l with rfl | ⟨m, c, rfl⟩
   ·simp at h
   ·rw [List.concat_eq_append] at h ⊢
    exact snoc m c (ih m (by simpa using h))
 exact fun l => this l.length l rfl
theorem digs_unique {l : List Nat} (hd : l.all dig = true) (hne : l ≠ []) (hh : l.head? ≠ some 48 \/ l.length = 1) : digs (val l) = l := by
 induction l using snoc_induct with
 | nil => exact absurd rfl hne
 | snoc m c ih =>
  rw [List.all_append, Bool.and_eq_true] at hd
  have hc := dig_iff.1 (by simpa using hd.2 : dig c = true)
  rw [val_snoc]
  by_cases hm : m = []
  ·subst hm
   rw [digs_low (by simp [val]; omega)]
   simp [val]; omega
  ·have hmh : m.head? ≠ some 48 := by
    rcases hh with h | h
    ·cases m with
     | nil => exact absurd rfl hm
     | cons x r => simpa using h
    ·rw [List.length_append, List.length_singleton] at h
     have : m.length = 0 := by omega
     exact absurd (List.length_eq_zero_iff.1 this) hm
   have hi := ih hd.1 hm (.inl hmh)
   have hp : 1 <= val m := by
    cases m with
    | nil => exact absurd rfl hm
    | cons x r =>
     simp only [List.all_cons, Bool.and_eq_true] at hd
     have hx := dig_iff.1 hd.1.1
     have : x ≠ 48 := by simpa using hmh
     rw [val_cons]
     have : 1 * 10 ^ r.length <= (x - 48) * 10 ^ r.length := Nat.mul_le_mul_right _ (by omega)
     have : 0 < 10 ^ r.length := Nat.pow_pos (by decide)
     omega
   rw [digs_step (by omega), show (val m * 10 + (c - 48)) / 10 = val m by omega, hi, show 48 + (val m * 10 + (c - 48)) % 10 = c by omega]

def bare : List Nat -> List Nat
 | [] => []
 | [c] => [c]
 | c :: d :: r => if c = 48 then bare (d :: r) else c :: d :: r
theorem bare_step {l : List Nat} (h1 : 1 < l.length) (h2 : l.head? = some 48) : bare l.tail = bare l := by
 match l, h1, h2 with
 | [], h, _ => simp at h
 | [_], h, _ => simp at h
 | c :: d :: r, _, h =>
  have hc : c = 48 := by simpa using h
  subst hc; rfl
theorem bare_short {l : List Nat} (h1 : ¬ 1 < l.length) : bare l = l := by
 match l, h1 with
 | [], _ => rfl
 | [_], _ => rfl
 | _ :: _ :: _, h => simp at h
theorem bare_stop {l : List Nat} (h2 : l.head? ≠ some 48) : bare l = l := by
 match l, h2 with
 | [], _ => rfl
 | [_], _ => rfl
 | c :: d :: r, h =>
  have hc : c ≠ 48 := by simpa using h
  rw [bare, if_neg hc]
theorem bare_spec (l : List Nat) (hd : l.all dig = true) (hne : l ≠ []) : (bare l).all dig = true /\ bare l ≠ [] /\ ((bare l).head? ≠ some 48 \/ (bare l).length = 1) /\ val (bare l) = val l := by
 induction l with
 | nil => exact absurd rfl hne
 | cons c l ih =>
  cases l with
  | nil => exact ⟨hd, by simp [bare], .inr rfl, rfl⟩
  | cons d r =>
   by_cases hc : c = 48
   ·subst hc
    simp only [List.all_cons, Bool.and_eq_true] at hd
    have := ih (by simpa using hd.2) (by simp)
    rw [bare, if_pos rfl]
    refine ⟨this.1, this.2.1, this.2.2.1, ?_⟩
    rw [this.2.2.2, val_cons 48]; simp
   ·rw [bare, if_neg hc]
    exact ⟨hd, by simp, .inl (by simpa using hc), rfl⟩
theorem bare_eq {l : List Nat} (hd : l.all dig = true) (hne : l ≠ []) : bare l = digs (val l) := by
 have h := bare_spec l hd hne
 rw [<- h.2.2.2]
 exact (digs_unique h.1 h.2.1 h.2.2.1).symm

def strip : Nat -> Nat -> Nat × Nat
 | v, 0 => (v, 0)
 | v, S + 1 => if v % 10 = 0 then strip (v / 10) S else (v, S + 1)
theorem strip_spec (S : Nat) : ∀ v, (strip v S).2 <= S /\ v = (strip v S).1 * 10 ^ (S - (strip v S).2) /\ ((strip v S).2 = 0 \/ (strip v S).1 % 10 ≠ 0) := by
 induction S with
 | zero => intro v; simp [strip]
 | succ S ih =>
  intro v
  unfold strip
  by_cases h : v % 10 = 0
  ·rw [if_pos h]
   obtain ⟨h1, h2, h3⟩ := ih (v / 10)
   refine ⟨by omega, ?_, h3⟩
   rw [show S + 1 - (strip (v / 10) S).2 = (S - (strip (v / 10) S).2) + 1 by omega, Nat.pow_succ, <- Nat.mul_assoc, <- h2]
   omega
  ·rw [if_neg h]
   exact ⟨Nat.le_refl _, by simp, .inr h⟩
theorem pow10_pos (k : Nat) : 0 < 10 ^ k := Nat.pow_pos (by decide)
theorem strip_unique {v u S T : Nat} (h : v * 10 ^ T = u * 10 ^ S) (hv : v ≠ 0) : strip v S = strip u T := by
 obtain ⟨a1, a2, a3⟩ := strip_spec S v
 obtain ⟨b1, b2, b3⟩ := strip_spec T u
 obtain ⟨x, X, hx⟩ : ∃ x X, strip v S = (x, X) := ⟨_, _, rfl⟩
 obtain ⟨y, Y, hy⟩ : ∃ y Y, strip u T = (y, Y) := ⟨_, _, rfl⟩
 rw [hx] at a1 a2 a3 ⊢
 rw [hy] at b1 b2 b3 ⊢
 simp only at a1 a2 a3 b1 b2 b3
 have e : x * 10 ^ Y = y * 10 ^ X := by
  have h2 : x * 10 ^ Y * 10 ^ (S - X + (T - Y)) = y * 10 ^ X * 10 ^ (S - X + (T - Y)) := by
   have l1 : x * 10 ^ Y * 10 ^ (S - X + (T - Y)) = v * 10 ^ T := by
    rw [a2, Nat.mul_assoc, Nat.mul_assoc, <- Nat.pow_add, <- Nat.pow_add]; congr 2; omega
   have l2 : y * 10 ^ X * 10 ^ (S - X + (T - Y)) = u * 10 ^ S := by
    rw [b2, Nat.mul_assoc, Nat.mul_assoc, <- Nat.pow_add, <- Nat.pow_add]; congr 2; omega
   rw [l1, l2, h]
  exact Nat.eq_of_mul_eq_mul_right (pow10_pos _) h2
 have hx0 : x ≠ 0 := by rintro rfl; simp at a2; exact hv a2
 rcases Nat.lt_trichotomy X Y with h1 | h1 | h1
 ·have : x * 10 ^ (Y - X) = y := by
   refine Nat.eq_of_mul_eq_mul_right (pow10_pos X) ?_
   rw [Nat.mul_assoc, <- Nat.pow_add, show Y - X + X = Y by omega, e]
  obtain ⟨k, hk⟩ : ∃ k, Y - X = k + 1 := ⟨Y - X - 1, by omega⟩
  rw [hk, Nat.pow_succ, <- Nat.mul_assoc] at this
  rcases b3 with b3 | b3
  ·omega
  ·omega
 ·subst h1
  have := Nat.eq_of_mul_eq_mul_right (pow10_pos X) e
  rw [this]
 ·have : y * 10 ^ (X - Y) = x := by
   refine Nat.eq_of_mul_eq_mul_right (pow10_pos Y) ?_
   rw [Nat.mul_assoc, <- Nat.pow_add, show X - Y + Y = X by omega, e]
  obtain ⟨k, hk⟩ : ∃ k, X - Y = k + 1 := ⟨X - Y - 1, by omega⟩
  rw [hk, Nat.pow_succ, <- Nat.mul_assoc] at this
  rcases a3 with a3 | a3
  ·omega
  ·omega

def can (neg : Bool) (v S : Nat) : Option (Bool × Nat × Nat) :=
 if v = 0 then some (false, 0, 0) else if 60 < (digs (strip v S).1).length \/ 60 < (strip v S).2 then none else some (neg, (strip v S).1, (strip v S).2)
theorem can_congr {v u S T : Nat} (neg : Bool) (h : v * 10 ^ T = u * 10 ^ S) : can neg v S = can neg u T := by
 unfold can
 by_cases hv : v = 0
 ·subst hv
  have hu : u = 0 := by
   rw [Nat.zero_mul] at h
   rcases Nat.mul_eq_zero.1 h.symm with h | h
   ·exact h
   ·have := pow10_pos S; omega
  rw [if_pos rfl, if_pos hu]
 ·have hu : u ≠ 0 := by
   rintro rfl
   rw [Nat.zero_mul] at h
   rcases Nat.mul_eq_zero.1 h with h | h
   ·exact hv h
   ·have := pow10_pos T; omega
  rw [if_neg hv, if_neg hu, strip_unique h hv]
def isCan (neg : Bool) (v S : Nat) : Prop := (digs v).length <= 60 /\ S <= 60 /\ (v = 0 -> neg = false /\ S = 0) /\ (S = 0 \/ v % 10 ≠ 0)
theorem strip_done {v S : Nat} (h : S = 0 \/ v % 10 ≠ 0) : strip v S = (v, S) := by
 cases S with
 | zero => rfl
 | succ S =>
  rcases h with h | h
  ·omega
  ·unfold strip; rw [if_neg h]
theorem can_self {neg : Bool} {v S : Nat} (h : isCan neg v S) : can neg v S = some (neg, v, S) := by
 obtain ⟨h1, h2, h3, h4⟩ := h
 unfold can
 by_cases hv : v = 0
 ·subst hv
  obtain ⟨rfl, rfl⟩ := h3 rfl
  rfl
 ·rw [if_neg hv, strip_done h4, if_neg (by simp only; omega)]
theorem can_is {neg n : Bool} {v S u T : Nat} (h : can neg v S = some (n, u, T)) : isCan n u T /\ (v = 0 -> n = false) /\ (v ≠ 0 -> n = neg) /\ v * 10 ^ T = u * 10 ^ S := by
 unfold can at h
 by_cases hv : v = 0
 ·rw [if_pos hv] at h
  cases h
  exact ⟨⟨by decide, by decide, fun _ => ⟨rfl, rfl⟩, .inl rfl⟩, fun _ => rfl, fun h => absurd hv h, by rw [hv]; simp⟩
 ·rw [if_neg hv] at h
  obtain ⟨a1, a2, a3⟩ := strip_spec S v
  split at h
  ·cases h
  ·rename_i hr
   simp only [Option.some.injEq, Prod.mk.injEq] at h
   obtain ⟨rfl, rfl, rfl⟩ := h
   refine ⟨⟨by omega, by omega, fun h0 => ?_, a3⟩, fun h => absurd h hv, fun _ => rfl, ?_⟩
   ·rw [h0] at a2; simp at a2; exact absurd a2 hv
   ·generalize strip v S = p at *
    obtain ⟨x, X⟩ := p
    simp only at *
    rw [a2, Nat.mul_assoc, <- Nat.pow_add, show S - X + X = S by omega]

def sg (neg : Bool) (v : Nat) : Int := if neg then -(v : Int) else (v : Int)
def canI (m : Int) (S : Nat) : Option (Bool × Nat × Nat) := can (decide (m < 0)) m.natAbs S
theorem can_sg (neg : Bool) (v S : Nat) : can neg v S = canI (sg neg v) S := by
 unfold canI sg
 by_cases hv : v = 0
 ·subst hv; cases neg <;> simp [can]
 ·cases neg
  ·simp only [Bool.false_eq_true, if_false, Int.natAbs_natCast]
   rw [decide_eq_false (by omega)]
  ·simp only [if_true, Int.natAbs_neg, Int.natAbs_natCast]
   rw [decide_eq_true (by omega)]
theorem canI_congr {m k : Int} {S T : Nat} (h : m * 10 ^ T = k * 10 ^ S) : canI m S = canI k T := by
 have hp : ∀ n : Nat, (0 : Int) < 10 ^ n := fun n => Int.pow_pos (by decide)
 have hs : decide (m < 0) = decide (k < 0) := by
  have key : m < 0 ↔ k < 0 := by
   constructor
   ·intro hm
    have : m * 10 ^ T < 0 := Int.mul_neg_of_neg_of_pos hm (hp T)
    rw [h] at this
    rcases Int.lt_or_le k 0 with hk | hk
    ·exact hk
    ·have := Int.mul_nonneg hk (Int.le_of_lt (hp S)); omega
   ·intro hk
    have : k * 10 ^ S < 0 := Int.mul_neg_of_neg_of_pos hk (hp S)
    rw [<- h] at this
    rcases Int.lt_or_le m 0 with hm | hm
    ·exact hm
    ·have := Int.mul_nonneg hm (Int.le_of_lt (hp T)); omega
  exact decide_eq_decide.2 key
 unfold canI
 rw [hs]
 refine can_congr _ ?_
 have := congrArg Int.natAbs h
 rw [Int.natAbs_mul, Int.natAbs_mul, Int.natAbs_pow, Int.natAbs_pow] at this
 exact this
theorem sg_canI {neg : Bool} {v S : Nat} (h : isCan neg v S) : canI (sg neg v) S = some (neg, v, S) := by rw [<- can_sg, can_self h]
theorem canI_is {m : Int} {S : Nat} {n : Bool} {u T : Nat} (h : canI m S = some (n, u, T)) : isCan n u T /\ m * 10 ^ T = sg n u * 10 ^ S := by
 unfold canI at h
 obtain ⟨h1, h2, h3, h4⟩ := can_is h
 refine ⟨h1, ?_⟩
 by_cases hm : m = 0
 ·subst hm
  have h0 : u = 0 := by
   rw [Int.natAbs_zero, Nat.zero_mul] at h4
   rcases Nat.mul_eq_zero.1 h4.symm with h4 | h4
   ·exact h4
   ·have := pow10_pos S; omega
  subst h0
  simp [sg]
 ·have hn : n = decide (m < 0) := h3 (by omega)
  have h5 : ((m.natAbs : Nat) : Int) * 10 ^ T = (u : Int) * 10 ^ S := by exact_mod_cast h4
  unfold sg
  rcases Int.lt_or_le m 0 with hneg | hpos
  ·rw [decide_eq_true hneg] at hn
   subst hn
   rw [show m = -((m.natAbs : Nat) : Int) by omega, if_pos rfl, Int.neg_mul, Int.neg_mul, h5]
  ·rw [decide_eq_false (by omega)] at hn
   subst hn
   rw [show m = ((m.natAbs : Nat) : Int) by omega, if_neg (by decide), h5]
end Go.Proofs.YthoojcdjjecogaaGreatDoor.Dc
namespace Go.Proofs.YthoojcdjjecogaaGreatDoor.Dc

def valB : List Nat -> Nat
 | [] => 0
 | d :: r => d + 1000000000 * valB r
theorem valB_append (l m : List Nat) : valB (l ++ m) = valB l + 1000000000 ^ l.length * valB m := by
 induction l with
 | nil => simp [valB]
 | cons d l ih =>
  rw [List.cons_append, valB, ih, valB, List.length_cons, Nat.pow_succ, Nat.mul_add, <- Nat.mul_assoc, Nat.mul_comm (1000000000 ^ l.length), Nat.add_assoc]
theorem valB_lt {l : List Nat} (h : ∀ d ∈ l, d < 1000000000) : valB l < 1000000000 ^ l.length := by
 induction l with
 | nil => simp [valB]
 | cons d l ih =>
  have h1 := h d (List.mem_cons_self ..)
  have h2 := ih (fun x hx => h x (List.mem_cons_of_mem _ hx))
  rw [valB, List.length_cons, Nat.pow_succ]
  omega
theorem valB_take {l : List Nat} {k : Nat} (h : k < l.length) : valB (l.take (k + 1)) = valB (l.take k) + 1000000000 ^ k * l.getD k 0 := by
 rw [List.take_succ_eq_append_getElem h, valB_append, List.length_take, Nat.min_eq_left (by omega)]
 simp [valB, List.getD_eq_getElem?_getD, h]
theorem valB_zeros (n : Nat) : valB (List.replicate n 0) = 0 := by
 induction n with
 | zero => rfl
 | succ n ih => rw [List.replicate_succ, valB, ih]
theorem valB_split (l : List Nat) (k : Nat) (h : k <= l.length) : valB l = valB (l.take k) + 1000000000 ^ k * valB (l.drop k) := by
 have := valB_append (l.take k) (l.drop k)
 rwa [List.take_append_drop, List.length_take, Nat.min_eq_left h] at this
theorem drop_getD {l : List Nat} {k : Nat} (h : k < l.length) : l.drop k = l.getD k 0 :: l.drop (k + 1) := by
 rw [List.drop_eq_getElem_cons h]; simp [List.getD_eq_getElem?_getD, h]
theorem getD_lt {l : List Nat} (h : ∀ d ∈ l, d < 1000000000) (k : Nat) : l.getD k 0 < 1000000000 := by
 rcases Nat.lt_or_ge k l.length with hk | hk
 ·rw [List.getD_eq_getElem?_getD, List.getElem?_eq_getElem hk]; exact h _ (List.getElem_mem hk)
 ·rw [List.getD_eq_getElem?_getD, List.getElem?_eq_none hk]; decide
theorem valB_order {l m : List Nat} {k : Nat} (hl : k < l.length) (hm : k < m.length) (hb : ∀ d ∈ l, d < 1000000000) (hs : l.drop (k + 1) = m.drop (k + 1)) (h : l.getD k 0 < m.getD k 0) : valB l < valB m := by
 rw [valB_split l k (by omega), valB_split m k (by omega), drop_getD hl, drop_getD hm, hs, valB, valB]
 have h1 := valB_lt (l := l.take k) (fun d hd => hb d (List.mem_of_mem_take hd))
 rw [List.length_take, Nat.min_eq_left (by omega)] at h1
 have h2 : 1000000000 ^ k * (l.getD k 0 + 1000000000 * valB (m.drop (k + 1))) + 1000000000 ^ k <= 1000000000 ^ k * (m.getD k 0 + 1000000000 * valB (m.drop (k + 1))) := by
  rw [<- Nat.mul_succ]; exact Nat.mul_le_mul_left _ (by omega)
 omega
theorem valB_set {l : List Nat} {k x : Nat} (h : k < l.length) : valB (l.set k x) + 1000000000 ^ k * l.getD k 0 = valB l + 1000000000 ^ k * x := by
 have e : l.set k x = l.take k ++ x :: l.drop (k + 1) := by rw [List.set_eq_take_append_cons_drop, if_pos h]
 rw [e, valB_append, List.length_take, Nat.min_eq_left (by omega), valB, valB_split l k (by omega), drop_getD h, valB, Nat.mul_add, Nat.mul_add]
 omega

def pad (k n : Nat) : List Nat := List.replicate (k - (digs n).length) 48 ++ digs n
theorem pad_dig (k n : Nat) : (pad k n).all dig = true := by rw [pad, List.all_append, zeros_dig, digs_dig]; rfl
theorem pad_length {k n : Nat} (hk : 1 <= k) (h : n < 10 ^ k) : (pad k n).length = k := by
 have := (digs_length hk).2 h
 rw [pad, List.length_append, List.length_replicate]; omega
def lexLt : List Nat -> List Nat -> Bool
 | [], [] => false
 | [], _ :: _ => true
 | _ :: _, [] => false
 | a :: l, b :: m => decide (a < b) || (decide (a = b) && lexLt l m)
theorem lex_val : ∀ (l m : List Nat), l.length = m.length -> l.all dig = true -> m.all dig = true -> lexLt l m = decide (val l < val m)
 | [], [], _, _, _ => rfl
 | [], _ :: _, h, _, _ => by simp at h
 | _ :: _, [], h, _, _ => by simp at h
 | a :: l, b :: m, h, hl, hm => by
  simp only [List.all_cons, Bool.and_eq_true] at hl hm
  have ha := dig_iff.1 hl.1
  have hb := dig_iff.1 hm.1
  have hlen : l.length = m.length := by simpa using h
  have ih := lex_val l m hlen hl.2 hm.2
  have h1 := val_lt hl.2
  have h2 := val_lt hm.2
  rw [lexLt, ih, val_cons, val_cons, hlen]
  rw [hlen] at h1
  rcases Nat.lt_trichotomy a b with c | c | c
  ·have : (a - 48) * 10 ^ m.length + 10 ^ m.length <= (b - 48) * 10 ^ m.length := by
    rw [<- Nat.succ_mul]; exact Nat.mul_le_mul_right _ (by omega)
   rw [decide_eq_true c, decide_eq_true (by omega : (a - 48) * 10 ^ m.length + val l < (b - 48) * 10 ^ m.length + val m)]; rfl
  ·subst c
   rw [decide_eq_false (by omega : ¬ a < a), decide_eq_true rfl, Bool.false_or, Bool.true_and]
   exact decide_eq_decide.2 ⟨by omega, by omega⟩
  ·have : (b - 48) * 10 ^ m.length + 10 ^ m.length <= (a - 48) * 10 ^ m.length := by
    rw [<- Nat.succ_mul]; exact Nat.mul_le_mul_right _ (by omega)
   rw [decide_eq_false (by omega : ¬ a < b), decide_eq_false (by omega : ¬ a = b), decide_eq_false (by omega : ¬ (a - 48) * 10 ^ m.length + val l < (b - 48) * 10 ^ m.length + val m)]; rfl
theorem lex_digs {x y : Nat} : (decide ((digs x).length < (digs y).length) || (decide ((digs x).length = (digs y).length) && lexLt (digs x) (digs y))) = decide (x < y) := by
 rcases Nat.lt_trichotomy (digs x).length (digs y).length with c | c | c
 ·have h1 := (digs_length (n := x) (digs_pos x)).1 (Nat.le_refl _)
  have h2 : ¬ y < 10 ^ (digs x).length := fun h => by have := (digs_length (n := y) (digs_pos x)).2 h; omega
  rw [decide_eq_true c, decide_eq_true (by omega : x < y)]; rfl
 ·rw [decide_eq_false (by omega : ¬ (digs x).length < (digs y).length), decide_eq_true c, lex_val _ _ c (digs_dig x) (digs_dig y), val_digs, val_digs]; rfl
 ·have h1 := (digs_length (n := y) (digs_pos y)).1 (Nat.le_refl _)
  have h2 : ¬ x < 10 ^ (digs y).length := fun h => by have := (digs_length (n := x) (digs_pos y)).2 h; omega
  rw [decide_eq_false (by omega : ¬ (digs x).length < (digs y).length), decide_eq_false (by omega : ¬ (digs x).length = (digs y).length), decide_eq_false (by omega : ¬ x < y)]; rfl
end Go.Proofs.YthoojcdjjecogaaGreatDoor.Dc
namespace Go.Proofs.YthoojcdjjecogaaGreatDoor
open Go Go.RowKit

theorem str_append (l m : List Nat) : str l ++ str m = str (l ++ m) := by
 apply ByteArray.ext
 simp [str]
theorem ret_str {s t : ByteArray} (h : s = t) : Ending.returned (.string s) = .returned (.string t) := by rw [h]

theorem rdigits_yes (s : ByteArray) (hs : s.size <= 1000000) (hd : (bts s).all Dc.dig = true) (hne : s.size ≠ 0) (w : World) : Calls Tryz.prog 74 #[.string s] w fun e w' => e = .returned (.bool true) /\ w = w' := by
 have HD : Hid _ := Lib.hid hd
 have he := isEmpty_no (Nat.pos_of_ne_zero hne)
 clear hd hne
 go_enter Tryz.func74, Tryz.ntmps74
 go_wp2
 go_loop [3] (fun i => ∃ k : Nat, k <= s.size /\ i = .int .i64 k) (fun i => s.size - (intOf i).toNat)
 case atStart => exact ⟨0, Nat.zero_le _, rfl⟩
 case round =>
  obtain ⟨k, hk, rfl⟩ := hrel
  by_cases hlt : k < s.size
  ·obtain ⟨c, hc⟩ : ∃ c, (s[k]'hlt).toNat = c := ⟨_, rfl⟩
   have hm := Dc.dig_iff.1 (List.all_eq_true.1 HD.out c (by rw [<- hc, <- bts_get s k hlt]; exact List.getElem_mem _))
   have d1 : decide ((c : Int) < 48) = false := decide_eq_false (by omega)
   have d2 : decide (57 < (c : Int)) = false := decide_eq_false (by omega)
   clear hm
   go_wp2
   go_round
   case rel => exact ⟨k + 1, by omega, by simp⟩
   case measure => simp [intOf]; omega
  ·go_wp2
   go_ret
   exact ⟨rfl, rfl⟩
theorem rdigits_no (s : ByteArray) (hs : s.size <= 1000000) (hd : (bts s).all Dc.dig = false) (w : World) : Calls Tryz.prog 74 #[.string s] w fun e w' => e = .returned (.bool false) /\ w = w' := by
 have HD : Hid _ := Lib.hid hd
 clear hd
 go_enter Tryz.func74, Tryz.ntmps74
 go_wp2
 go_loop [3] (fun i => ∃ k : Nat, k <= s.size /\ i = .int .i64 k /\ Hid (((bts s).take k).all Dc.dig = true)) (fun i => s.size - (intOf i).toNat)
 case atStart => exact ⟨0, Nat.zero_le _, rfl, Lib.hid rfl⟩
 case round =>
  obtain ⟨k, hk, rfl, hall⟩ := hrel
  by_cases hlt : k < s.size
  ·obtain ⟨c, hc⟩ : ∃ c, (s[k]'hlt).toNat = c := ⟨_, rfl⟩
   by_cases hm : 48 <= c /\ c <= 57
   ·have hall2 : Hid (((bts s).take (k + 1)).all Dc.dig = true) := Lib.hid (by rw [bts_take_succ s k hlt, List.all_append, hall.out, hc]; simp [Dc.dig, hm.1, hm.2])
    have d1 : decide ((c : Int) < 48) = false := decide_eq_false (by omega)
    have d2 : decide (57 < (c : Int)) = false := decide_eq_false (by omega)
    clear hm hall
    go_wp2
    go_round
    case rel => exact ⟨k + 1, by omega, by simp, hall2⟩
    case measure => simp [intOf]; omega
   ·by_cases h1 : c < 48
    ·have d1 : decide ((c : Int) < 48) = true := decide_eq_true (by omega)
     clear hm h1 hall
     go_wp2
     go_ret
     exact ⟨rfl, rfl⟩
    ·have d1 : decide ((c : Int) < 48) = false := decide_eq_false (by omega)
     have d2 : decide (57 < (c : Int)) = true := decide_eq_true (by omega)
     clear hm h1 hall
     go_wp2
     go_ret
     exact ⟨rfl, rfl⟩
  ·exfalso
   have hke : (bts s).take k = bts s := List.take_of_length_le (by rw [bts_length]; omega)
   have := hall.out
   rw [hke, HD.out] at this; cases this
theorem rdigits_nil (s : ByteArray) (hs : s.size = 0) (w : World) : Calls Tryz.prog 74 #[.string s] w fun e w' => e = .returned (.bool false) /\ w = w' := by
 have he := isEmpty_yes hs
 go_enter Tryz.func74, Tryz.ntmps74
 go_wp2
 refine wp_loop_rounds 1 ?_
 rw [rounds_succ]
 go_wp2
 go_ret
 exact ⟨rfl, rfl⟩
def onlyB (s : ByteArray) : Bool := (bts s).all Dc.dig && decide (s.size ≠ 0)
theorem rdigits_any (s : ByteArray) (hs : s.size <= 1000000) (w : World) : Calls Tryz.prog 74 #[.string s] w fun e w' => e = .returned (.bool (onlyB s)) /\ w = w' := by
 unfold onlyB
 by_cases h0 : s.size = 0
 ·rw [decide_eq_false (by omega : ¬ s.size ≠ 0), Bool.and_false]; exact rdigits_nil s h0 w
 ·rw [decide_eq_true (by omega : s.size ≠ 0), Bool.and_true]
  cases hd : (bts s).all Dc.dig with
  | true => exact rdigits_yes s hs hd h0 w
  | false => exact rdigits_no s hs hd w

theorem rbare_any (s : ByteArray) (hs : s.size <= 1000000) (w : World) : Calls Tryz.prog 113 #[.string s] w fun e w' => (∃ t : ByteArray, e = .returned (.string t) /\ t = str (Dc.bare (bts s))) /\ w = w' := by
 go_enter Tryz.func113, Tryz.ntmps113
 go_wp2
 go_loop [0] (fun v => ∃ t : ByteArray, v = .string t /\ t.size <= 1000000 /\ Hid (Dc.bare (bts t) = Dc.bare (bts s))) (fun v => match v with | .string t => t.size | _ => 0)
 case atStart => exact ⟨s, rfl, hs, Lib.hid rfl⟩
 case round =>
  obtain ⟨t, rfl, ht, hb⟩ := hrel
  by_cases h1 : 1 < t.size
  ·obtain ⟨c, hc⟩ : ∃ c, (t[0]'(by omega)).toNat = c := ⟨_, rfl⟩
   have hhd : (bts t).head? = some c := by
    rw [List.head?_eq_getElem?, List.getElem?_eq_getElem (by rw [bts_length]; omega), bts_get t 0 (by omega), hc]
   obtain ⟨r, hr⟩ : ∃ r, t.extract 1 t.size = r := ⟨_, rfl⟩
   have hbr : bts r = (bts t).tail := by rw [<- hr]; exact bts_tail t
   by_cases h48 : c = 48
   ·subst h48
    have hb2 : Hid (Dc.bare (bts r) = Dc.bare (bts s)) := Lib.hid (by
     rw [<- hb.out, hbr]; exact Dc.bare_step (by rw [bts_length]; exact h1) hhd)
    have hrl : r.size = t.size - 1 := by rw [<- bts_length, hbr, List.length_tail, bts_length]
    have HRL : Hid _ := Lib.hid hrl
    clear hb hbr hhd hrl
    go_wp2
    go_round
    case rel => exact ⟨r, rfl, by have := HRL.out; omega, hb2⟩
    case measure => have := HRL.out; simp; omega
   ·have d : ((c : Int) == 48) = false := beq_no h48
    have hfin : Hid (t = str (Dc.bare (bts s))) := Lib.hid (by
     rw [<- hb.out, Dc.bare_stop (by rw [hhd]; simpa using h48), str_bts])
    clear hb hbr hhd h48
    go_wp2
    go_ret
    exact ⟨ret_str hfin.out, rfl⟩
  ·have hfin : Hid (t = str (Dc.bare (bts s))) := Lib.hid (by
    rw [<- hb.out, Dc.bare_short (by rw [bts_length]; exact h1), str_bts])
   clear hb
   go_wp2
   go_ret
   exact ⟨ret_str hfin.out, rfl⟩

theorem rzeros_any (z : Int) (n : Nat) (hz : z = n) (hn : n <= 1000000) (w : World) : Calls Tryz.prog 69 #[.int .i64 z] w fun e w' => (∃ t : ByteArray, e = .returned (.string t) /\ t = str (List.replicate n 48)) /\ w = w' := by
 subst hz
 go_enter Tryz.func69, Tryz.ntmps69
 go_wp2
 go_loop [3, 4] (fun v i => ∃ (k : Nat) (t : ByteArray), k <= n /\ i = .int .i64 k /\ v = .string t /\ Hid (t = str (List.replicate k 48))) (fun _ i => n - (intOf i).toNat)
 case atStart => exact ⟨0, ⟨#[]⟩, Nat.zero_le _, rfl, rfl, Lib.hid rfl⟩
 case round =>
  obtain ⟨k, t, hk, rfl, rfl, ht⟩ := hrel
  by_cases hlt : k < n
  ·have hts : t.size = k := by rw [ht.out, str_size]; simp
   have HTS : Hid _ := Lib.hid hts
   have htl : t.size <= 1000000 := by omega
   have ht2 : Hid (t ++ ⟨#[48]⟩ = str (List.replicate (k + 1) 48)) := Lib.hid (by
    rw [ht.out, List.replicate_succ', <- str_append]; rfl)
   clear hts ht
   go_wp2
   go_round
   case rel => exact ⟨k + 1, _, by omega, by simp, rfl, ht2⟩
   case measure => simp [intOf]; omega
  ·have hke : k = n := by omega
   subst hke
   go_wp2
   go_ret
   exact ⟨ret_str ht.out, rfl⟩
theorem str_add (s t : ByteArray) : bts (s ++ t) = bts s ++ bts t := by simp [bts]
end Go.Proofs.YthoojcdjjecogaaGreatDoor
namespace Go.Proofs.YthoojcdjjecogaaGreatDoor.Dc

def wide (l : List Nat) (S : Nat) : List Nat := List.replicate (S + 1 - l.length) 48 ++ l
def dotted (l : List Nat) (S : Nat) : List Nat := if S = 0 then wide l S else (wide l S).take ((wide l S).length - S) ++ 46 :: (wide l S).drop ((wide l S).length - S)
def txt (neg : Bool) (l : List Nat) (S : Nat) : List Nat := if neg then 45 :: dotted l S else dotted l S
theorem wide_length (l : List Nat) (S : Nat) : (wide l S).length = max (S + 1) l.length := by
 rw [wide, List.length_append, List.length_replicate]; omega
theorem wide_dig {l : List Nat} (S : Nat) (h : l.all dig = true) : (wide l S).all dig = true := by rw [wide, List.all_append, zeros_dig, h]; rfl
theorem val_wide (l : List Nat) (S : Nat) : val (wide l S) = val l := val_zeros_front _ _
def unsign : List Nat -> Bool × List Nat
 | c :: r => if c = 45 then (true, r) else if c = 43 then (false, r) else (false, c :: r)
 | [] => (false, [])
def whole (l : List Nat) : List Nat := l.takeWhile fun c => decide (c ≠ 46)
def part (l : List Nat) : List Nat := (l.dropWhile fun c => decide (c ≠ 46)).drop 1
def readD (l : List Nat) : Option (Option (Bool × Nat × Nat)) :=
 if (whole (unsign l).2 ++ part (unsign l).2).all dig = true /\ whole (unsign l).2 ++ part (unsign l).2 ≠ [] then some (can (unsign l).1 (val (whole (unsign l).2 ++ part (unsign l).2)) (part (unsign l).2).length) else none
theorem dig_ne46 {l : List Nat} (h : l.all dig = true) : ∀ c ∈ l, (decide (c ≠ 46)) = true := by
 intro c hc
 have := dig_iff.1 (List.all_eq_true.1 h c hc)
 rw [decide_eq_true_eq]; omega
theorem whole_digits {l : List Nat} (h : l.all dig = true) : whole l = l /\ part l = [] := by
 constructor
 ·have := List.takeWhile_append_of_pos (l₂ := []) (dig_ne46 h)
  simpa [whole] using this
 ·have := List.dropWhile_append_of_pos (l₂ := []) (dig_ne46 h)
  unfold part
  rw [List.append_nil] at this
  rw [this]; rfl
theorem whole_dot {l m : List Nat} (h : l.all dig = true) : whole (l ++ 46 :: m) = l /\ part (l ++ 46 :: m) = m := by
 constructor
 ·unfold whole
  rw [List.takeWhile_append_of_pos (dig_ne46 h)]; simp
 ·unfold part
  rw [List.dropWhile_append_of_pos (dig_ne46 h)]; simp
theorem unsign_digit {c : Nat} {r : List Nat} (h : dig c = true) : unsign (c :: r) = (false, c :: r) := by
 have := dig_iff.1 h
 show (if c = 45 then (true, r) else if c = 43 then (false, r) else (false, c :: r)) = _
 rw [if_neg (by omega), if_neg (by omega)]
theorem dotted_cons (l : List Nat) (S : Nat) (h : l.all dig = true) : ∃ c r, dotted l S = c :: r /\ dig c = true := by
 have hd := wide_dig S h
 have hlen := wide_length l S
 cases hw : wide l S with
 | nil => rw [hw] at hlen; simp at hlen; omega
 | cons c r =>
  rw [hw] at hd
  simp only [List.all_cons, Bool.and_eq_true] at hd
  unfold dotted
  by_cases hS : S = 0
  ·rw [if_pos hS, hw]; exact ⟨c, r, rfl, hd.1⟩
  ·rw [if_neg hS]
   rw [hw] at hlen ⊢
   obtain ⟨k, hk⟩ : ∃ k, (c :: r).length - S = k + 1 := ⟨(c :: r).length - S - 1, by omega⟩
   rw [hk, List.take_succ_cons, List.cons_append]
   exact ⟨c, _, rfl, hd.1⟩
theorem read_dotted (l : List Nat) (S : Nat) (h : l.all dig = true) : whole (dotted l S) ++ part (dotted l S) = wide l S /\ (part (dotted l S)).length = S := by
 have hd := wide_dig S h
 have hlen := wide_length l S
 unfold dotted
 by_cases hS : S = 0
 ·rw [if_pos hS]
  obtain ⟨h1, h2⟩ := whole_digits hd
  rw [h1, h2]; simp [hS]
 ·rw [if_neg hS]
  have h3 : ((wide l S).take ((wide l S).length - S)).all dig = true := by
   rw [List.all_eq_true] at hd ⊢
   exact fun c hc => hd c (List.mem_of_mem_take hc)
  obtain ⟨h1, h2⟩ := whole_dot (m := (wide l S).drop ((wide l S).length - S)) h3
  rw [h1, h2, List.take_append_drop, List.length_drop]
  exact ⟨rfl, by omega⟩
theorem read_txt (neg : Bool) (v S : Nat) : readD (txt neg (digs v) S) = some (can neg v S) := by
 have hu : unsign (txt neg (digs v) S) = (neg, dotted (digs v) S) := by
  unfold txt
  cases neg with
  | true => simp [unsign]
  | false =>
   obtain ⟨c, r, h1, h2⟩ := dotted_cons (digs v) S (digs_dig v)
   rw [if_neg (by decide), h1, unsign_digit h2]
 obtain ⟨h1, h2⟩ := read_dotted (digs v) S (digs_dig v)
 unfold readD
 rw [hu]
 simp only
 rw [h1, h2, val_wide, val_digs, if_pos]
 refine ⟨wide_dig S (digs_dig v), fun h => ?_⟩
 have := wide_length (digs v) S
 rw [h] at this; simp at this; omega
end Go.Proofs.YthoojcdjjecogaaGreatDoor.Dc
namespace Go.Proofs.YthoojcdjjecogaaGreatDoor
open Go Go.RowKit

structure Digs (s : ByteArray) : Prop where
 all : (bts s).all Dc.dig = true
 ne : bts s ≠ []
theorem Digs.bare {s : ByteArray} (h : Digs s) : Dc.bare (bts s) = Dc.digs (Dc.val (bts s)) := Dc.bare_eq h.all h.ne
theorem rbare_digs (s : ByteArray) (hs : s.size <= 1000000) (h : Digs s) (w : World) : Calls Tryz.prog 113 #[.string s] w fun e w' => (∃ t : ByteArray, e = .returned (.string t) /\ t = str (Dc.digs (Dc.val (bts s)))) /\ w = w' := by
 refine (rbare_any s hs w).mono ?_
 rintro e w' ⟨⟨t, rfl, ht⟩, rfl⟩
 exact ⟨⟨t, rfl, by rw [ht, h.bare]⟩, rfl⟩
theorem digs_lt (n : Nat) : ∀ b ∈ Dc.digs n, b < 256 := fun b hb => by
 have := Dc.dig_iff.1 (List.all_eq_true.1 (Dc.digs_dig n) b hb); omega
theorem bts_digs (n : Nat) : bts (str (Dc.digs n)) = Dc.digs n := bts_str _ (digs_lt n)

theorem bytesLess_lex : ∀ l m : List UInt8, Op.bytesLess l m = Dc.lexLt (l.map UInt8.toNat) (m.map UInt8.toNat)
 | [], [] => rfl
 | [], _ :: _ => rfl
 | _ :: _, [] => rfl
 | a :: l, b :: m => by
  have ih := bytesLess_lex l m
  unfold Op.bytesLess
  rw [ih]
  have hb : (a == b) = decide (a.toNat = b.toNat) := by
   rw [Bool.eq_iff_iff, beq_iff_eq, decide_eq_true_eq]; exact UInt8.toNat_inj.symm
  simp only [List.map_cons, Dc.lexLt, hb, UInt8.lt_iff_toNat_lt]
theorem rless_any (s t : ByteArray) (hs : s.size <= 1000000) (ht : t.size <= 1000000) (h1 : Digs s) (h2 : Digs t) (w : World) : Calls Tryz.prog 88 #[.string s, .string t] w fun e w' => e = .returned (.bool (decide (Dc.val (bts s) < Dc.val (bts t)))) /\ w = w' := by
 have C1 : Hid _ := Lib.hid (rbare_digs s hs h1)
 have C2 : Hid _ := Lib.hid (rbare_digs t ht h2)
 have tok1 : True := trivial
 go_enter Tryz.func88, Tryz.ntmps88
 go_wp2_with (first
  | (go_at_call 113; have _t := tok1; refine (C1.out _).mono ?_; rintro e w1 ⟨⟨x, rfl, hx⟩, rfl⟩; have HX : Hid _ := Lib.hid hx; clear hx tok1 _t)
  | (go_at_call 113; refine (C2.out _).mono ?_; rintro e w1 ⟨⟨y, rfl, hy⟩, rfl⟩; have HY : Hid _ := Lib.hid hy; clear hy))
 all_goals go_ret
 all_goals
  have key := Dc.lex_digs (x := Dc.val (bts s)) (y := Dc.val (bts t))
  have e1 : x.size = (Dc.digs (Dc.val (bts s))).length := by rw [HX.out, str_size]
  have e2 : y.size = (Dc.digs (Dc.val (bts t))).length := by rw [HY.out, str_size]
  have e3 : Op.bytesLess x.toList y.toList = Dc.lexLt (Dc.digs (Dc.val (bts s))) (Dc.digs (Dc.val (bts t))) := by
   rw [bytesLess_lex, <- bts_digs (Dc.val (bts s)), <- bts_digs (Dc.val (bts t)), <- HX.out, <- HY.out, ByteArray.toList_eq, ByteArray.toList_eq]; rfl
  refine ⟨ret_bool ?_, rfl⟩
  rw [<- key, <- e1, <- e2, <- e3]
  cases Op.bytesLess x.toList y.toList <;> rw [Bool.eq_iff_iff] <;> simp only [Bool.or_eq_true, Bool.and_eq_true, decide_eq_true_eq, Bool.false_eq_true, and_false, or_false, and_true, true_iff] <;> first | omega | (constructor <;> intro _ <;> first | omega | exact .inr trivial | exact .inr (by omega))
end Go.Proofs.YthoojcdjjecogaaGreatDoor
namespace Go.Proofs.YthoojcdjjecogaaGreatDoor.Dc

abbrev D := Bool × Nat × Nat
def ok (a : D) : Prop := isCan a.1 a.2.1 a.2.2
def at_ (K : Nat) (a : D) : Int := sg a.1 a.2.1 * 10 ^ (K - a.2.2)
theorem p10 (n : Nat) : (0 : Int) < 10 ^ n := Int.pow_pos (by decide)
theorem canI_up {m : Int} {S K : Nat} (h : S <= K) : canI m S = canI (m * 10 ^ (K - S)) K :=
 canI_congr (by rw [Int.mul_assoc, <- Int.pow_add, show K - S + S = K by omega])
theorem can_scale {neg n : Bool} {v S u T : Nat} (h : can neg v S = some (n, u, T)) : T <= S := by
 unfold can at h
 split at h
 ·cases h; omega
 ·split at h
  ·cases h
  ·cases h; exact (strip_spec S v).1
theorem canI_at {M : Int} {K : Nat} {x : D} (h : canI M K = some x) : ok x /\ x.2.2 <= K /\ at_ K x = M := by
 obtain ⟨n, u, T⟩ := x
 obtain ⟨h1, h2⟩ := canI_is h
 have h3 : T <= K := can_scale h
 refine ⟨h1, h3, ?_⟩
 unfold at_
 simp only
 have e : sg n u * 10 ^ (K - T) * 10 ^ T = M * 10 ^ T := by
  rw [Int.mul_assoc, <- Int.pow_add, show K - T + T = K by omega, h2]
 exact Int.eq_of_mul_eq_mul_right (Int.ne_of_gt (p10 T)) e
theorem at_canI {K : Nat} {x : D} (h : ok x) (hK : x.2.2 <= K) : canI (at_ K x) K = some x := by
 unfold at_
 rw [<- canI_up hK]
 exact sg_canI h
theorem at_up {K L : Nat} {x : D} (h : x.2.2 <= K) (hL : K <= L) : at_ L x = at_ K x * 10 ^ (L - K) := by
 unfold at_
 rw [Int.mul_assoc, <- Int.pow_add, show K - x.2.2 + (L - K) = L - x.2.2 by omega]
def addD (a b : D) : Option D := canI (at_ (max a.2.2 b.2.2) a + at_ (max a.2.2 b.2.2) b) (max a.2.2 b.2.2)
def opp (a : D) : D := (!a.1 && decide (a.2.1 ≠ 0), a.2.1, a.2.2)
def mulD (a b : D) : Option D := canI (sg a.1 a.2.1 * sg b.1 b.2.1) (a.2.2 + b.2.2)
def cmpD (a b : D) : Int := if at_ (max a.2.2 b.2.2) a < at_ (max a.2.2 b.2.2) b then -1 else if at_ (max a.2.2 b.2.2) b < at_ (max a.2.2 b.2.2) a then 1 else 0
theorem opp_ok {a : D} (h : ok a) : ok (opp a) := by
 obtain ⟨n, v, S⟩ := a
 obtain ⟨h1, h2, h3, h4⟩ := h
 refine ⟨h1, h2, fun h0 => ?_, h4⟩
 simp only [opp] at h0 ⊢
 exact ⟨by simp [h0], (h3 h0).2⟩
theorem addD_at {K : Nat} {a b : D} (ha : a.2.2 <= K) (hb : b.2.2 <= K) : addD a b = canI (at_ K a + at_ K b) K := by
 unfold addD
 rw [canI_up (K := K) (by omega), Int.add_mul, <- at_up (by omega) (by omega), <- at_up (by omega) (by omega)]
theorem cmpD_at {K : Nat} {a b : D} (ha : a.2.2 <= K) (hb : b.2.2 <= K) : cmpD a b = if at_ K a < at_ K b then -1 else if at_ K b < at_ K a then 1 else 0 := by
 have e1 : at_ K a = at_ (max a.2.2 b.2.2) a * 10 ^ (K - max a.2.2 b.2.2) := at_up (by omega) (by omega)
 have e2 : at_ K b = at_ (max a.2.2 b.2.2) b * 10 ^ (K - max a.2.2 b.2.2) := at_up (by omega) (by omega)
 have hp := p10 (K - max a.2.2 b.2.2)
 unfold cmpD
 rw [e1, e2]
 generalize at_ (max a.2.2 b.2.2) a = x
 generalize at_ (max a.2.2 b.2.2) b = y
 have lt : ∀ x y : Int, (x * 10 ^ (K - max a.2.2 b.2.2) < y * 10 ^ (K - max a.2.2 b.2.2)) ↔ x < y := fun x y => ⟨fun h => Int.lt_of_mul_lt_mul_right h (Int.le_of_lt hp), fun h => Int.mul_lt_mul_of_pos_right h hp⟩
 by_cases h1 : x < y
 ·rw [if_pos h1, if_pos ((lt x y).2 h1)]
 ·rw [if_neg h1, if_neg (fun h => h1 ((lt x y).1 h))]
  by_cases h2 : y < x
  ·rw [if_pos h2, if_pos ((lt y x).2 h2)]
  ·rw [if_neg h2, if_neg (fun h => h2 ((lt y x).1 h))]
theorem add_comm (a b : D) : addD a b = addD b a := by
 rw [addD_at (K := max a.2.2 b.2.2) (by omega) (by omega), addD_at (K := max a.2.2 b.2.2) (by omega) (by omega), Int.add_comm]
theorem mul_comm (a b : D) : mulD a b = mulD b a := by unfold mulD; rw [Int.mul_comm, Nat.add_comm]
theorem at_neg {K : Nat} {x : D} (h : ok x) : at_ K x < 0 ↔ x.1 = true := by
 have hp := p10 (K - x.2.2)
 obtain ⟨n, v, S⟩ := x
 have h3 := h.2.2.1
 simp only at h3
 unfold at_ sg
 simp only at hp ⊢
 constructor
 ·intro hlt
  cases n with
  | true => rfl
  | false =>
   rw [if_neg (by decide)] at hlt
   have := Int.mul_nonneg (Int.natCast_nonneg v) (Int.le_of_lt hp)
   omega
 ·intro hn
  subst hn
  have hv : v ≠ 0 := fun h0 => by have := (h3 h0).1; cases this
  rw [if_pos rfl]
  exact Int.mul_neg_of_neg_of_pos (by omega) hp
end Go.Proofs.YthoojcdjjecogaaGreatDoor.Dc
namespace Go.Proofs.YthoojcdjjecogaaGreatDoor.Dc

def quo (a b : D) (sc : Nat) : Nat := (a.2.1 * 10 ^ (max a.2.2 b.2.2 - a.2.2 + sc)) / (b.2.1 * 10 ^ (max a.2.2 b.2.2 - b.2.2))
theorem sg_pow (x : Bool) (m k : Nat) : sg x m * 10 ^ k = sg x (m * 10 ^ k) := by
 cases x <;> simp [sg, Int.natCast_mul, Int.natCast_pow, Int.neg_mul]
theorem at_sg (K : Nat) (a : D) : at_ K a = sg a.1 (a.2.1 * 10 ^ (K - a.2.2)) := sg_pow _ _ _
end Go.Proofs.YthoojcdjjecogaaGreatDoor.Dc
namespace Go.Proofs.YthoojcdjjecogaaGreatDoor.Dc
def ord (x y : Nat) : Int := if x < y then -1 else if y < x then 1 else 0
theorem cmpD_pos (u T v S : Nat) {K X Y : Nat} (hK : max T S = K) (hX : u * 10 ^ (K - T) = X) (hY : v * 10 ^ (K - S) = Y) : cmpD (false, u, T) (false, v, S) = ord X Y := by
 subst hK; subst hX; subst hY
 unfold cmpD ord; rw [at_sg, at_sg]
 simp only [sg, Bool.false_eq_true, if_false]
 generalize u * 10 ^ (max T S - T) = X
 generalize v * 10 ^ (max T S - S) = Y
 by_cases h : X < Y
 ·rw [if_pos h, if_pos (Int.ofNat_lt.2 h)]
 ·rw [if_neg h, if_neg (fun h2 => h (Int.ofNat_lt.1 h2))]
  by_cases h3 : Y < X
  ·rw [if_pos h3, if_pos (Int.ofNat_lt.2 h3)]
  ·rw [if_neg h3, if_neg (fun h2 => h3 (Int.ofNat_lt.1 h2))]
theorem cmpD_neg (u T v S : Nat) {K X Y : Nat} (hK : max T S = K) (hX : u * 10 ^ (K - T) = X) (hY : v * 10 ^ (K - S) = Y) : cmpD (true, u, T) (true, v, S) = - ord X Y := by
 subst hK; subst hX; subst hY
 unfold cmpD ord; rw [at_sg, at_sg]
 simp only [sg, if_true]
 generalize u * 10 ^ (max T S - T) = X
 generalize v * 10 ^ (max T S - S) = Y
 rcases Nat.lt_trichotomy X Y with h | h | h
 ·rw [if_neg (by omega), if_pos (by omega), if_pos h]; rfl
 ·rw [if_neg (by omega), if_neg (by omega), if_neg (by omega), if_neg (by omega)]; rfl
 ·rw [if_pos (by omega), if_neg (by omega), if_pos h]
theorem cmpD_np {a b : D} (ha : ok a) (hb : ok b) (h1 : a.1 = true) (h2 : b.1 = false) : cmpD a b = -1 := by
 have e1 : at_ (max a.2.2 b.2.2) a < 0 := (at_neg ha).2 h1
 have e2 : ¬ at_ (max a.2.2 b.2.2) b < 0 := fun h => by have := (at_neg hb).1 h; rw [h2] at this; cases this
 unfold cmpD; rw [if_pos (by omega)]
theorem cmpD_pn {a b : D} (ha : ok a) (hb : ok b) (h1 : a.1 = false) (h2 : b.1 = true) : cmpD a b = 1 := by
 have e1 : ¬ at_ (max a.2.2 b.2.2) a < 0 := fun h => by have := (at_neg ha).1 h; rw [h1] at this; cases this
 have e2 : at_ (max a.2.2 b.2.2) b < 0 := (at_neg hb).2 h2
 unfold cmpD; rw [if_neg (by omega), if_pos (by omega)]
theorem cmpD_self (a : D) : cmpD a a = 0 := by unfold cmpD; rw [if_neg (by omega), if_neg (by omega)]
theorem at_inj {K : Nat} {a b : D} (ha : ok a) (hb : ok b) (h1 : a.2.2 <= K) (h2 : b.2.2 <= K) (h : at_ K a = at_ K b) : a = b := by
 have e1 := at_canI ha h1
 have e2 := at_canI hb h2
 rw [h, e2] at e1
 exact (Option.some.inj e1).symm
theorem cmpD_eq {a b : D} (ha : ok a) (hb : ok b) (h : cmpD a b = 0) : a = b := by
 unfold cmpD at h
 refine at_inj (K := max a.2.2 b.2.2) ha hb (by omega) (by omega) ?_
 split at h
 ·cases h
 ·split at h
  ·cases h
  ·omega
end Go.Proofs.YthoojcdjjecogaaGreatDoor.Dc
namespace Go.Proofs.YthoojcdjjecogaaGreatDoor.Dc
def U : Int := 10 ^ 60
theorem U_eq : U = 10 ^ 60 := rfl
theorem ok60 {a : D} (h : ok a) : a.2.2 <= 60 := h.2.1
theorem int_some {k : Int} (h : k.natAbs < 10 ^ 60) : canI k 0 = some (decide (k < 0), k.natAbs, 0) := by
 unfold canI can
 by_cases h0 : k.natAbs = 0
 ·obtain rfl : k = 0 := by omega
  rfl
 ·rw [if_neg h0]
  have := (digs_length (n := k.natAbs) (k := 60) (by decide)).2 h
  rw [strip_done (.inl rfl), if_neg (by simp only; omega)]
theorem int_ok {k : Int} (h : k.natAbs < 10 ^ 60) : ok (decide (k < 0), k.natAbs, 0) := (canI_at (int_some h)).1
theorem cmp60 {a b : D} (ha : ok a) (hb : ok b) : cmpD a b = if at_ 60 a < at_ 60 b then -1 else if at_ 60 b < at_ 60 a then 1 else 0 := cmpD_at (ok60 ha) (ok60 hb)
theorem zero_ok : ok (false, 0, 0) := int_ok (k := 0) (by decide)
theorem parts (T : Int) : T / U * U + T % U = T := by have := Int.mul_ediv_add_emod T U; rw [Int.mul_comm]; exact this
end Go.Proofs.YthoojcdjjecogaaGreatDoor.Dc
namespace Go.Proofs.YthoojcdjjecogaaGreatDoor
open Go Go.RowKit

theorem ponly_yes (s : ByteArray) (hs : s.size <= 9223372036854775807) (hd : (bts s).all Dc.dig = true) (hne : s.size ≠ 0) (w : World) : Calls Tryz.prog 70 #[.string s] w fun e w' => e = .returned (.bool true) /\ w = w' := by
 have HD : Hid _ := Lib.hid hd
 have he := isEmpty_no (Nat.pos_of_ne_zero hne)
 clear hd hne
 go_enter Tryz.func70, Tryz.ntmps70
 go_wp2
 go_loop [6] (fun i => ∃ k : Nat, k <= s.size /\ i = .int .i64 k) (fun i => s.size - (intOf i).toNat)
 case atStart => exact ⟨0, Nat.zero_le _, rfl⟩
 case round =>
  obtain ⟨k, hk, rfl⟩ := hrel
  by_cases hlt : k < s.size
  ·obtain ⟨c, hc⟩ : ∃ c, (s[k]'hlt).toNat = c := ⟨_, rfl⟩
   have hm := Dc.dig_iff.1 (List.all_eq_true.1 HD.out c (by rw [<- hc, <- bts_get s k hlt]; exact List.getElem_mem _))
   have d1 : decide ((c : Int) < 48) = false := decide_eq_false (by omega)
   have d2 : decide (57 < (c : Int)) = false := decide_eq_false (by omega)
   clear hm
   go_wp2
   go_round
   case rel => exact ⟨k + 1, by omega, by simp⟩
   case measure => simp [intOf]; omega
  ·go_wp2
   go_ret
   exact ⟨rfl, rfl⟩
theorem ponly_no (s : ByteArray) (hs : s.size <= 9223372036854775807) (hd : (bts s).all Dc.dig = false) (w : World) : Calls Tryz.prog 70 #[.string s] w fun e w' => e = .returned (.bool false) /\ w = w' := by
 have HD : Hid _ := Lib.hid hd
 clear hd
 go_enter Tryz.func70, Tryz.ntmps70
 go_wp2
 go_loop [6] (fun i => ∃ k : Nat, k <= s.size /\ i = .int .i64 k /\ Hid (((bts s).take k).all Dc.dig = true)) (fun i => s.size - (intOf i).toNat)
 case atStart => exact ⟨0, Nat.zero_le _, rfl, Lib.hid rfl⟩
 case round =>
  obtain ⟨k, hk, rfl, hall⟩ := hrel
  by_cases hlt : k < s.size
  ·obtain ⟨c, hc⟩ : ∃ c, (s[k]'hlt).toNat = c := ⟨_, rfl⟩
   by_cases hm : 48 <= c /\ c <= 57
   ·have hall2 : Hid (((bts s).take (k + 1)).all Dc.dig = true) := Lib.hid (by rw [bts_take_succ s k hlt, List.all_append, hall.out, hc]; simp [Dc.dig, hm.1, hm.2])
    have d1 : decide ((c : Int) < 48) = false := decide_eq_false (by omega)
    have d2 : decide (57 < (c : Int)) = false := decide_eq_false (by omega)
    clear hm hall
    go_wp2
    go_round
    case rel => exact ⟨k + 1, by omega, by simp, hall2⟩
    case measure => simp [intOf]; omega
   ·by_cases h1 : c < 48
    ·have d1 : decide ((c : Int) < 48) = true := decide_eq_true (by omega)
     clear hm h1 hall
     go_wp2
     go_ret
     exact ⟨rfl, rfl⟩
    ·have d1 : decide ((c : Int) < 48) = false := decide_eq_false (by omega)
     have d2 : decide (57 < (c : Int)) = true := decide_eq_true (by omega)
     clear hm h1 hall
     go_wp2
     go_ret
     exact ⟨rfl, rfl⟩
  ·exfalso
   have hke : (bts s).take k = bts s := List.take_of_length_le (by rw [bts_length]; omega)
   have := hall.out
   rw [hke, HD.out] at this; cases this
theorem ponly_nil (s : ByteArray) (hs : s.size = 0) (w : World) : Calls Tryz.prog 70 #[.string s] w fun e w' => e = .returned (.bool false) /\ w = w' := by
 have he := isEmpty_yes hs
 go_enter Tryz.func70, Tryz.ntmps70
 go_wp2
 refine wp_loop_rounds 1 ?_
 rw [rounds_succ]
 go_wp2
 go_ret
 exact ⟨rfl, rfl⟩
theorem ponly_any (s : ByteArray) (hs : s.size <= 9223372036854775807) (w : World) : Calls Tryz.prog 70 #[.string s] w fun e w' => e = .returned (.bool (onlyB s)) /\ w = w' := by
 unfold onlyB
 by_cases h0 : s.size = 0
 ·rw [decide_eq_false (by omega : ¬ s.size ≠ 0), Bool.and_false]; exact ponly_nil s h0 w
 ·rw [decide_eq_true (by omega : s.size ≠ 0), Bool.and_true]
  cases hd : (bts s).all Dc.dig with
  | true => exact ponly_yes s hs hd h0 w
  | false => exact ponly_no s hs hd w


theorem writeByte_any (B b : Nat) (bs : List Value) (c : Int) (w : World) (h : Lib.IsBuilder 99 5 B b bs w) (hlen : bs.length + 1 <= 140737488355328) (hBw : B <= w.heap.size) :
  Calls Tryz.prog 67 #[.pointer (some ⟨b, 0, none⟩), .int .u8 c] w fun e w' => e = .returned .nilIface /\ (Lib.BuilderAt 99 5 B b (.pointer (some ⟨b, 0, none⟩)) (bs ++ [.int .u8 c]) w' /\ Below B w w') := by
 obtain ⟨i0, hi, hz0, hz1, hz2⟩ := info_parts Tryz.info5
 go_enter Tryz.func67, Tryz.ntmps67
 go_wp2_with (go_at_call 104; refine (copy_any B b bs _ h).mono ?_)
 rintro e w1 ⟨rfl, h1, hb1⟩
 obtain ⟨hB, v, hbk, hown, hne⟩ := h1
 have c0 : w1.cell? ⟨b, 0, none⟩ = some (.pointer (some ⟨b, 0, none⟩)) := by rw [Lib.cell_of_heap hbk]; rfl
 have c1 : w1.cell? ⟨b, 1, none⟩ = some v := by rw [Lib.cell_of_heap hbk]; rfl
 go_wp2_with (at_builtin; refine wpList_append_own _ rfl _ _ 79 rfl B 5 i0 (.int .u8 0) 1 1 Tryz.underlying79 hi hz0 hz1 hz2 rfl (by decide) _ _ _ rfl (hown.alloc _) ⟨w1.heap.size, 0, none⟩ 1 1 [.int .u8 c] rfl rfl ?c1 ?c2 ?c3 ?c4 ?c5 ?_)
 case c1 =>
  intro j u hj
  match j, hj with
  | 0, hj => simp at hj; subst hj; simp [Addr.add]
 case c2 => intro u hu; simp at hu; subst hu; rfl
 case c3 => unfold maxLen; omega
 case c4 => omega
 case c5 => have := hb1.size; simp; omega
 intro v' w2 hown' hgrow _
 have hlt : b < w1.heap.size := (Array.getElem?_eq_some_iff.1 hbk).1
 have hb2 : w2.heap[b]? = some (.cells #[.pointer (some ⟨b, 0, none⟩), v] 99 (0, 0)) := by
  rw [hgrow.block b (by simp; omega) (fun e => hne e.symm), Lib.alloc_old w1 _ b hlt]
  exact hbk
 have d0 : w2.cell? ⟨b, 0, none⟩ = some (.pointer (some ⟨b, 0, none⟩)) := by rw [Lib.cell_of_heap hb2]; rfl
 have d1 : w2.cell? ⟨b, 1, none⟩ = some v := by rw [Lib.cell_of_heap hb2]; rfl
 have f1 : w2.frozen? ⟨b, 1, none⟩ = false := Lib.frozen_of_heap hb2 1
 obtain ⟨g, cap, rfl⟩ : ∃ g cap, v' = .slice (some ⟨g, 0, none⟩) (bs.length + 1) cap := by
  rcases hown'.2 with ⟨_, h0⟩ | ⟨g, cap, cur, hv, _⟩
  ·omega
  ·exact ⟨g, cap, hv⟩
 go_wp2
 go_ret
 refine ⟨rfl, ?_, ?_⟩
 ·exact Lib.BuilderAt.put (T := 99) (e := 5) hB hb2 (bs' := bs ++ [.int .u8 c]) (by simpa using hown') (by decide)
 ·exact ((hb1.alloc (by have := hb1.size; omega) _).grown hgrow (by have := hb1.size; simp; omega) (fun k hk => (hown.lt k hk).1)).setCell (p := ⟨b, 1, none⟩) hB _
end Go.Proofs.YthoojcdjjecogaaGreatDoor
