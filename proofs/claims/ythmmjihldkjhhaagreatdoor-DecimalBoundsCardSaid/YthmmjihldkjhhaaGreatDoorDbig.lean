/-
  Numbers of elements of nine digits, and rows of digits that are added, subtracted, compared and divided. Plain laws; no condition.
-/
import Derived.Test.YthmmjihldkjhhaaGreatDoorDnum
namespace Go.Proofs.YthmmjihldkjhhaaGreatDoor.Dc

/-- The number of elements of nine digits each, the last ones first. -/
def valB : List Nat → Nat
  | [] => 0
  | d :: r => d + 1000000000 * valB r
theorem valB_append (l m : List Nat) : valB (l ++ m) = valB l + 1000000000 ^ l.length * valB m := by
  induction l with
  | nil => simp [valB]
  | cons d l ih =>
    rw [List.cons_append, valB, ih, valB, List.length_cons, Nat.pow_succ, Nat.mul_add, ← Nat.mul_assoc, Nat.mul_comm (1000000000 ^ l.length), Nat.add_assoc]
theorem valB_lt {l : List Nat} (h : ∀ d ∈ l, d < 1000000000) : valB l < 1000000000 ^ l.length := by
  induction l with
  | nil => simp [valB]
  | cons d l ih =>
    have h1 := h d (List.mem_cons_self ..)
    have h2 := ih (fun x hx => h x (List.mem_cons_of_mem _ hx))
    rw [valB, List.length_cons, Nat.pow_succ]
    omega
theorem valB_take {l : List Nat} {k : Nat} (h : k < l.length) : valB (l.take (k + 1)) = valB (l.take k) + 1000000000 ^ k * l.getD k 0 := by
  rw [List.take_succ_eq_append_getElem h, valB_append, List.length_take, Nat.min_eq_left (by omega)]
  simp [valB, List.getD_eq_getElem?_getD, h]
theorem valB_zeros (n : Nat) : valB (List.replicate n 0) = 0 := by
  induction n with
  | zero => rfl
  | succ n ih => rw [List.replicate_succ, valB, ih]
theorem valB_split (l : List Nat) (k : Nat) (h : k ≤ l.length) : valB l = valB (l.take k) + 1000000000 ^ k * valB (l.drop k) := by
  have := valB_append (l.take k) (l.drop k)
  rwa [List.take_append_drop, List.length_take, Nat.min_eq_left h] at this
theorem drop_getD {l : List Nat} {k : Nat} (h : k < l.length) : l.drop k = l.getD k 0 :: l.drop (k + 1) := by
  rw [List.drop_eq_getElem_cons h]; simp [List.getD_eq_getElem?_getD, h]
theorem getD_lt {l : List Nat} (h : ∀ d ∈ l, d < 1000000000) (k : Nat) : l.getD k 0 < 1000000000 := by
  rcases Nat.lt_or_ge k l.length with hk | hk
  · rw [List.getD_eq_getElem?_getD, List.getElem?_eq_getElem hk]; exact h _ (List.getElem_mem hk)
  · rw [List.getD_eq_getElem?_getD, List.getElem?_eq_none hk]; decide
/-- The first element from the top that differs tells the order. -/
theorem valB_order {l m : List Nat} {k : Nat} (hl : k < l.length) (hm : k < m.length) (hb : ∀ d ∈ l, d < 1000000000) (hs : l.drop (k + 1) = m.drop (k + 1)) (h : l.getD k 0 < m.getD k 0) : valB l < valB m := by
  rw [valB_split l k (by omega), valB_split m k (by omega), drop_getD hl, drop_getD hm, hs, valB, valB]
  have h1 := valB_lt (l := l.take k) (fun d hd => hb d (List.mem_of_mem_take hd))
  rw [List.length_take, Nat.min_eq_left (by omega)] at h1
  have h2 : 1000000000 ^ k * (l.getD k 0 + 1000000000 * valB (m.drop (k + 1))) + 1000000000 ^ k ≤ 1000000000 ^ k * (m.getD k 0 + 1000000000 * valB (m.drop (k + 1))) := by
    rw [← Nat.mul_succ]; exact Nat.mul_le_mul_left _ (by omega)
  omega
theorem valB_set {l : List Nat} {k x : Nat} (h : k < l.length) : valB (l.set k x) + 1000000000 ^ k * l.getD k 0 = valB l + 1000000000 ^ k * x := by
  have e : l.set k x = l.take k ++ x :: l.drop (k + 1) := by rw [List.set_eq_take_append_cons_drop, if_pos h]
  rw [e, valB_append, List.length_take, Nat.min_eq_left (by omega), valB, valB_split l k (by omega), drop_getD h, valB, Nat.mul_add, Nat.mul_add]
  omega

theorem set_drop {l : List Nat} {j x : Nat} (h : j < l.length) : (l.set j x).drop j = x :: l.drop (j + 1) := by
  have h2 : j < (l.set j x).length := by rw [List.length_set]; exact h
  rw [drop_getD h2]
  congr 1
  · simp [List.getD_eq_getElem?_getD, h]
  · rw [List.drop_set, if_pos (by omega)]
theorem val_drop {l : List Nat} {j : Nat} (h : j < l.length) : val (l.drop j) = (l.getD j 0 - 48) * 10 ^ (l.length - (j + 1)) + val (l.drop (j + 1)) := by
  rw [drop_getD h, val_cons, List.length_drop]
/-- One digit more of a sum. -/
theorem add_step {O X Y : List Nat} {n j cy d : Nat} (hO : O.length = n) (hX : X.length = n) (hY : Y.length = n) (hj : j < n) (hd : d = (X.getD j 0 - 48) + (Y.getD j 0 - 48) + cy)
    (h : val (O.drop (j + 1)) + cy * 10 ^ (n - (j + 1)) = val (X.drop (j + 1)) + val (Y.drop (j + 1))) : val ((O.set j (48 + d % 10)).drop j) + d / 10 * 10 ^ (n - j) = val (X.drop j) + val (Y.drop j) := by
  rw [set_drop (by omega), val_cons, val_drop (l := X) (by omega), val_drop (l := Y) (by omega), List.length_drop, hO, hX, hY, show n - j = (n - (j + 1)) + 1 by omega, Nat.pow_succ, Nat.mul_comm _ 10, Nat.add_sub_cancel_left]
  generalize 10 ^ (n - (j + 1)) = P at *
  have e1 : d % 10 * P + d / 10 * (10 * P) = d * P := by rw [← Nat.mul_assoc, ← Nat.add_mul]; congr 1; omega
  have e2 : d * P = (X.getD j 0 - 48) * P + (Y.getD j 0 - 48) * P + cy * P := by rw [hd, Nat.add_mul, Nat.add_mul]
  omega
/-- One digit more of a difference. -/
theorem sub_step {O X Y : List Nat} {n j bw d : Nat} (hO : O.length = n) (hX : X.length = n) (hY : Y.length = n) (hj : j < n) (hx : 48 ≤ X.getD j 0) (hy : 48 ≤ Y.getD j 0) (hy2 : Y.getD j 0 ≤ 57) (hx2 : X.getD j 0 ≤ 57) (hbw : bw ≤ 1) (hd : d + Y.getD j 0 + bw = 10 + X.getD j 0)
    (h : val (O.drop (j + 1)) + val (Y.drop (j + 1)) = val (X.drop (j + 1)) + bw * 10 ^ (n - (j + 1))) : val ((O.set j (48 + d % 10)).drop j) + val (Y.drop j) = val (X.drop j) + (1 - d / 10) * 10 ^ (n - j) := by
  rw [set_drop (by omega), val_cons, val_drop (l := X) (by omega), val_drop (l := Y) (by omega), List.length_drop, hO, hX, hY, show n - j = (n - (j + 1)) + 1 by omega, Nat.pow_succ, Nat.mul_comm _ 10, Nat.add_sub_cancel_left]
  generalize 10 ^ (n - (j + 1)) = P at *
  have e1 : d % 10 * P + (Y.getD j 0 - 48) * P + bw * P = (X.getD j 0 - 48) * P + (1 - d / 10) * (10 * P) := by
    rw [← Nat.mul_assoc, ← Nat.add_mul, ← Nat.add_mul, ← Nat.add_mul]; congr 1; omega
  omega
/-- A number written with so many digits. -/
def pad (k n : Nat) : List Nat := List.replicate (k - (digs n).length) 48 ++ digs n
theorem val_pad (k n : Nat) : val (pad k n) = n := by rw [pad, val_zeros_front, val_digs]
theorem pad_dig (k n : Nat) : (pad k n).all dig = true := by rw [pad, List.all_append, zeros_dig, digs_dig]; rfl
theorem pad_length {k n : Nat} (hk : 1 ≤ k) (h : n < 10 ^ k) : (pad k n).length = k := by
  have := (digs_length hk).2 h
  rw [pad, List.length_append, List.length_replicate]; omega
theorem digs_pad {x d k : Nat} (hx : x ≠ 0) (hk : 1 ≤ k) (hd : d < 10 ^ k) : digs (x * 10 ^ k + d) = digs x ++ pad k d := by
  have hv : val (digs x ++ pad k d) = x * 10 ^ k + d := by rw [val_append, val_digs, val_pad, pad_length hk hd]
  rw [← hv]
  refine digs_unique ?_ ?_ (.inl ?_)
  · rw [List.all_append, digs_dig, pad_dig]; rfl
  · intro h; exact digs_ne x (List.append_eq_nil_iff.1 h).1
  · have h1 := digs_head hx
    cases hc : digs x with
    | nil => exact absurd hc (digs_ne x)
    | cons c r => rw [hc] at h1; simpa using h1
/-- The order of rows of digits, as strings have it. -/
def lexLt : List Nat → List Nat → Bool
  | [], [] => false
  | [], _ :: _ => true
  | _ :: _, [] => false
  | a :: l, b :: m => decide (a < b) || (decide (a = b) && lexLt l m)
theorem lex_val : ∀ (l m : List Nat), l.length = m.length → l.all dig = true → m.all dig = true → lexLt l m = decide (val l < val m)
  | [], [], _, _, _ => rfl
  | [], _ :: _, h, _, _ => by simp at h
  | _ :: _, [], h, _, _ => by simp at h
  | a :: l, b :: m, h, hl, hm => by
    simp only [List.all_cons, Bool.and_eq_true] at hl hm
    have ha := dig_iff.1 hl.1
    have hb := dig_iff.1 hm.1
    have hlen : l.length = m.length := by simpa using h
    have ih := lex_val l m hlen hl.2 hm.2
    have h1 := val_lt hl.2
    have h2 := val_lt hm.2
    rw [lexLt, ih, val_cons, val_cons, hlen]
    rw [hlen] at h1
    rcases Nat.lt_trichotomy a b with c | c | c
    · have : (a - 48) * 10 ^ m.length + 10 ^ m.length ≤ (b - 48) * 10 ^ m.length := by
        rw [← Nat.succ_mul]; exact Nat.mul_le_mul_right _ (by omega)
      rw [decide_eq_true c, decide_eq_true (by omega : (a - 48) * 10 ^ m.length + val l < (b - 48) * 10 ^ m.length + val m)]; rfl
    · subst c
      rw [decide_eq_false (by omega : ¬ a < a), decide_eq_true rfl, Bool.false_or, Bool.true_and]
      exact decide_eq_decide.2 ⟨by omega, by omega⟩
    · have : (b - 48) * 10 ^ m.length + 10 ^ m.length ≤ (a - 48) * 10 ^ m.length := by
        rw [← Nat.succ_mul]; exact Nat.mul_le_mul_right _ (by omega)
      rw [decide_eq_false (by omega : ¬ a < b), decide_eq_false (by omega : ¬ a = b), decide_eq_false (by omega : ¬ (a - 48) * 10 ^ m.length + val l < (b - 48) * 10 ^ m.length + val m)]; rfl
theorem lex_digs {x y : Nat} : (decide ((digs x).length < (digs y).length) || (decide ((digs x).length = (digs y).length) && lexLt (digs x) (digs y))) = decide (x < y) := by
  rcases Nat.lt_trichotomy (digs x).length (digs y).length with c | c | c
  · have h1 := (digs_length (n := x) (digs_pos x)).1 (Nat.le_refl _)
    have h2 : ¬ y < 10 ^ (digs x).length := fun h => by have := (digs_length (n := y) (digs_pos x)).2 h; omega
    rw [decide_eq_true c, decide_eq_true (by omega : x < y)]; rfl
  · rw [decide_eq_false (by omega : ¬ (digs x).length < (digs y).length), decide_eq_true c, lex_val _ _ c (digs_dig x) (digs_dig y), val_digs, val_digs]; rfl
  · have h1 := (digs_length (n := y) (digs_pos y)).1 (Nat.le_refl _)
    have h2 : ¬ x < 10 ^ (digs y).length := fun h => by have := (digs_length (n := x) (digs_pos y)).2 h; omega
    rw [decide_eq_false (by omega : ¬ (digs x).length < (digs y).length), decide_eq_false (by omega : ¬ (digs x).length = (digs y).length), decide_eq_false (by omega : ¬ x < y)]; rfl
end Go.Proofs.YthmmjihldkjhhaaGreatDoor.Dc
