/-
  Numbers of 24 elements: what 'plus' and 'minus' return.
-/
import Derived.Test.YthmmjihldkjhhaaGreatDoorPsmall
namespace Go.Proofs.YthmmjihldkjhhaaGreatDoor
open Go Go.RowKit

set_option maxRecDepth 100000 in
theorem pplus1_any (x y c z : Int) (hx : 0 ≤ x) (hx2 : x ≤ 1000000000) (hy : 0 ≤ y) (hy2 : y ≤ 1000000000) (hc : 0 ≤ c) (hc2 : c ≤ 1) (hz : x + y + c = z) (w : World) : Calls Tryz.prog 83 #[.int .i64 x, .int .i64 y, .int .i64 c] w fun e w' => e = .returned (.int .i64 z) ∧ w' = w := by
  have HZ : Hid _ := Lib.hid hz
  clear hz
  go_enter Tryz.func83, Tryz.ntmps83
  go_wp2
  go_ret
  exact ⟨by rw [HZ.out]; rfl, rfl⟩
set_option maxRecDepth 100000 in
theorem pminus1_any (x y c z : Int) (hx : 0 ≤ x) (hx2 : x ≤ 1000000000) (hy : 0 ≤ y) (hy2 : y ≤ 1000000000) (hc : -1 ≤ c) (hc2 : c ≤ 0) (hz : x - y + c = z) (w : World) : Calls Tryz.prog 98 #[.int .i64 x, .int .i64 y, .int .i64 c] w fun e w' => e = .returned (.int .i64 z) ∧ w' = w := by
  have HZ : Hid _ := Lib.hid hz
  clear hz
  go_enter Tryz.func98, Tryz.ntmps98
  go_wp2
  go_ret
  exact ⟨by rw [HZ.out]; rfl, rfl⟩
/-- Three rows at the beginning. -/
theorem rows3 (w : World) (a b : List Nat) (ha : a.length = 24) (hb : b.length = 24) : Row24 (((w.alloc (.cells (numV a) 61)).alloc (.cells (numV b) 61)).alloc (.cells (numV (List.replicate 24 0)) 61)) w.heap.size a ∧
    Row24 (((w.alloc (.cells (numV a) 61)).alloc (.cells (numV b) 61)).alloc (.cells (numV (List.replicate 24 0)) 61)) (w.heap.size + 1) b ∧
    Row24 (((w.alloc (.cells (numV a) 61)).alloc (.cells (numV b) 61)).alloc (.cells (numV (List.replicate 24 0)) 61)) (w.heap.size + 1 + 1) (List.replicate 24 0) ∧
    Below w.heap.size w (((w.alloc (.cells (numV a) 61)).alloc (.cells (numV b) 61)).alloc (.cells (numV (List.replicate 24 0)) 61)) := by
  have e1 : (w.alloc (.cells (numV a) 61)).heap.size = w.heap.size + 1 := Array.size_push _
  have e2 : ((w.alloc (.cells (numV a) 61)).alloc (.cells (numV b) 61)).heap.size = w.heap.size + 1 + 1 := by rw [← e1]; exact Array.size_push _
  have b1 : Below w.heap.size w (w.alloc (.cells (numV a) 61)) := (Below.refl _ w).alloc (Nat.le_refl _) _
  have b2 : Below w.heap.size w ((w.alloc (.cells (numV a) 61)).alloc (.cells (numV b) 61)) := b1.alloc b1.size _
  refine ⟨((Row24.new w a ha).old _).old _, ?_, ?_, b2.alloc b2.size _⟩
  · have := (Row24.new (w.alloc (.cells (numV a) 61)) b hb).old (.cells (numV (List.replicate 24 0)) 61)
    rwa [e1] at this
  · have := Row24.new ((w.alloc (.cells (numV a) 61)).alloc (.cells (numV b) 61)) (List.replicate 24 0) rfl
    rwa [e2] at this
/-- What stands before a loop's row of elements. -/
theorem low_step {O : List Nat} {k x : Nat} (hO : O.length = 24) (hk : k < 24) (h : ∀ d ∈ O.take k, d < 1000000000) (hx : x < 1000000000) : ∀ d ∈ (O.set k x).take (k + 1), d < 1000000000 := by
  intro d hd
  rw [List.take_add_one, List.take_set, List.set_eq_of_length_le (by rw [List.length_take]; omega), List.getElem?_set_self (by omega)] at hd
  rcases List.mem_append.1 hd with h1 | h1
  · exact h d h1
  · simp at h1; rw [h1]; exact hx
theorem drop_step {O a : List Nat} {k x : Nat} (h : O.drop k = a.drop k) : (O.set k x).drop (k + 1) = a.drop (k + 1) := by
  have h5 := congrArg (List.drop 1) h
  rw [List.drop_drop, List.drop_drop] at h5
  rw [List.drop_set, if_pos (by omega)]; exact h5
theorem drop_at {O a : List Nat} {k : Nat} (h : O.drop k = a.drop k) : O.getD k 0 = a.getD k 0 := by
  have := congrArg (fun l => l.getD 0 0) h
  simp only [List.getD_eq_getElem?_getD, List.getElem?_drop, Nat.add_zero] at this
  rw [List.getD_eq_getElem?_getD, List.getD_eq_getElem?_getD]; exact this
set_option maxRecDepth 100000 in
set_option maxHeartbeats 2000000 in
theorem pcarried_plus (a b : List Nat) (ha : Num a) (hb : Num b) (w : World) : Calls Tryz.prog 82 #[.agg (numV a), .agg (numV b), .func (.func 83) #[] #[]] w fun e w' => (∃ O : List Nat, e = .returned (.agg (numV O)) ∧ Num O ∧ Dc.valB O = (Dc.valB a + Dc.valB b) % top) ∧ Below w.heap.size w w' := by
  have HA : Hid _ := Lib.hid ha
  have HB : Hid _ := Lib.hid hb
  have R : Hid _ := Lib.hid (rows3 w a b ha.len hb.len)
  clear ha hb
  go_enter Tryz.func82, Tryz.ntmps82
  go_wp2
  go_loopw [7, 10] (fun c i wr => ∃ (k cy : Nat) (zc : Int) (O : List Nat), k ≤ 24 ∧ i = .int .i64 (k : Int) ∧ c = .int .i64 zc ∧ Hid (zc = (cy : Int)) ∧ -1 ≤ zc ∧ zc ≤ 1 ∧ cy ≤ 1 ∧ Hid (∀ d ∈ O.take k, d < 1000000000) ∧ Hid (Dc.valB (O.take k) + 1000000000 ^ k * cy = Dc.valB (a.take k) + Dc.valB (b.take k)) ∧ Hid (O.drop k = a.drop k) ∧ Row24 wr w.heap.size O ∧ Row24 wr (w.heap.size + 1) b ∧ Row24 wr (w.heap.size + 1 + 1) (List.replicate 24 0) ∧ Below w.heap.size w wr) (fun _ i _ => 24 - (intOf i).toNat)
  case atStart => exact ⟨0, 0, 0, a, Nat.zero_le _, rfl, rfl, Lib.hid rfl, by omega, by omega, by omega, Lib.hid (by simp), Lib.hid (by simp [Dc.valB]), Lib.hid rfl, R.out.1, R.out.2.1, R.out.2.2.1, R.out.2.2.2⟩
  case round =>
    obtain ⟨k, cy, zc, O, hk, rfl, rfl, hzc, hz1, hz2, hcy, hlow, hval, hdr, hr1, hr2, hr3, hB⟩ := hrel
    by_cases hk24 : k = 24
    · subst hk24
      have hO : O.take 24 = O := List.take_of_length_le (by rw [hr1.len]; exact Nat.le_refl _)
      have ha : a.take 24 = a := List.take_of_length_le (by rw [HA.out.len]; exact Nat.le_refl _)
      have hb : b.take 24 = b := List.take_of_length_le (by rw [HB.out.len]; exact Nat.le_refl _)
      have hN : Hid (Num O) := Lib.hid ⟨hr1.len, by have := hlow.out; rwa [hO] at this⟩
      have hV : Hid (Dc.valB O = (Dc.valB a + Dc.valB b) % top) := Lib.hid (by
        have h3 := hval.out
        rw [hO, ha, hb] at h3
        have h4 := Dc.valB_lt hN.out.low
        rw [hr1.len] at h4
        rw [top, ← h3, Nat.add_mul_mod_self_left, Nat.mod_eq_of_lt h4])
      have hl := hr1.len
      have R3 : Hid _ := Lib.hid (hr3.set hr1.len)
      clear hO ha hb hk hlow hval hdr
      go_wp2_with (first
        | (refine wp_loadN hr1 rfl _ rfl rfl ?_)
        | (refine wp_storeN hr3 hl rfl _ _ rfl rfl rfl ?_))
      (try simp only [Exit.inBlock, Exit.then]); refine bodyPost_ret (R3.out.result rfl rfl) rfl ?_
      exact ⟨⟨O, rfl, hN.out, hV.out⟩, below_setRow hB (by omega) _⟩
    · have hk' : k < 24 := by omega
      have c1 := hr1.cell hk'
      have c2 := hr2.cell hk'
      have f1 := hr1.open (j := k)
      have j0 : (0 : Int) ≤ (k : Int) := by omega
      have j1 : (k : Int) < 24 := by omega
      obtain ⟨x, hx⟩ : ∃ x, a.getD k 0 = x := ⟨_, rfl⟩
      obtain ⟨y, hy⟩ : ∃ y, b.getD k 0 = y := ⟨_, rfl⟩
      have hxl : x < 1000000000 := by rw [← hx]; exact HA.out.at k
      have hyl : y < 1000000000 := by rw [← hy]; exact HB.out.at k
      rw [drop_at hdr.out, hx] at c1
      rw [hy] at c2
      have eA : Hid (Dc.valB (a.take (k + 1)) = Dc.valB (a.take k) + 1000000000 ^ k * x) := Lib.hid (by rw [Dc.valB_take (by rw [HA.out.len]; exact hk'), hx])
      have eB : Hid (Dc.valB (b.take (k + 1)) = Dc.valB (b.take k) + 1000000000 ^ k * y) := Lib.hid (by rw [Dc.valB_take (by rw [HB.out.len]; exact hk'), hy])
      have pw : Hid (1000000000 ^ (k + 1) = 1000000000 ^ k * 1000000000) := Lib.hid (Nat.pow_succ ..)
      clear hx hy hk24
      obtain ⟨v, hv⟩ : ∃ v, x + y + cy = v := ⟨_, rfl⟩
      have hz0 : 0 ≤ zc := by have := hzc.out; omega
      have hvl : v ≤ 1999999999 := by omega
      have hvi : Hid ((x : Int) + (y : Int) + zc = (v : Int)) := Lib.hid (by have := hzc.out; omega)
      have q1 : Int.tdiv (v : Int) 1000000000 = ((v / 1000000000 : Nat) : Int) := rfl
      have q2 : Int.tmod (v : Int) 1000000000 = ((v % 1000000000 : Nat) : Int) := rfl
      obtain ⟨q, hq⟩ : ∃ q, v / 1000000000 = q := ⟨_, rfl⟩
      obtain ⟨m, hm⟩ : ∃ m, v % 1000000000 = m := ⟨_, rfl⟩
      have hqm : Hid (m + 1000000000 * q = x + y + cy) := Lib.hid (by rw [← hq, ← hm, Nat.mod_add_div, hv])
      have hml : m < 1000000000 := by omega
      have hql : q ≤ 1 := by omega
      rw [hq] at q1
      rw [hm] at q2
      have hval2 : Hid (Dc.valB ((O.set k m).take (k + 1)) + 1000000000 ^ (k + 1) * q = Dc.valB (a.take (k + 1)) + Dc.valB (b.take (k + 1))) := Lib.hid (by
        rw [step_take hr1.len hk', eA.out, eB.out, pw.out, Nat.mul_assoc, Nat.add_assoc, ← Nat.mul_add, hqm.out, Nat.mul_add, Nat.mul_add]
        have := hval.out
        omega)
      have hlow2 : Hid (∀ d ∈ (O.set k m).take (k + 1), d < 1000000000) := Lib.hid (low_step hr1.len hk' hlow.out hml)
      have hdr2 : Hid ((O.set k m).drop (k + 1) = a.drop (k + 1)) := Lib.hid (drop_step hdr.out)
      clear hlow hval hdr hv hq hm
      go_wp2
      go_quiet (exact Calls.quiet_of_same (pplus1_any _ _ _ (v : Int) (by omega) (by omega) (by omega) (by omega) hz0 (by omega) hvi.out _))
      go_wp2
      go_roundw
      case rel => exact ⟨k + 1, q, (q : Int), O.set k m, by omega, rfl, rfl, Lib.hid rfl, by omega, by omega, by omega, hlow2, hval2, hdr2, (hr1.drew _).put k _, (hr2.drew _).apart (by omega) k _, (hr3.drew _).apart (by omega) k _, (below_drewN hB _).setCell (p := ⟨w.heap.size, k, none⟩) (Nat.le_refl _) _⟩
      case measure => simp [intOf]; omega
set_option maxRecDepth 100000 in
set_option maxHeartbeats 2000000 in
theorem pcarried_minus (a b : List Nat) (ha : Num a) (hb : Num b) (hle : Hid (Dc.valB b ≤ Dc.valB a)) (w : World) : Calls Tryz.prog 82 #[.agg (numV a), .agg (numV b), .func (.func 98) #[] #[]] w fun e w' => (∃ O : List Nat, e = .returned (.agg (numV O)) ∧ Num O ∧ Dc.valB O = Dc.valB a - Dc.valB b) ∧ Below w.heap.size w w' := by
  have HA : Hid _ := Lib.hid ha
  have HB : Hid _ := Lib.hid hb
  have R : Hid _ := Lib.hid (rows3 w a b ha.len hb.len)
  clear ha hb
  go_enter Tryz.func82, Tryz.ntmps82
  go_wp2
  go_loopw [7, 10] (fun c i wr => ∃ (k cy : Nat) (zc : Int) (O : List Nat), k ≤ 24 ∧ i = .int .i64 (k : Int) ∧ c = .int .i64 zc ∧ Hid (zc = -(cy : Int)) ∧ -1 ≤ zc ∧ zc ≤ 1 ∧ cy ≤ 1 ∧ Hid (∀ d ∈ O.take k, d < 1000000000) ∧ Hid (Dc.valB (O.take k) + Dc.valB (b.take k) = Dc.valB (a.take k) + 1000000000 ^ k * cy) ∧ Hid (O.drop k = a.drop k) ∧ Row24 wr w.heap.size O ∧ Row24 wr (w.heap.size + 1) b ∧ Row24 wr (w.heap.size + 1 + 1) (List.replicate 24 0) ∧ Below w.heap.size w wr) (fun _ i _ => 24 - (intOf i).toNat)
  case atStart => exact ⟨0, 0, 0, a, Nat.zero_le _, rfl, rfl, Lib.hid rfl, by omega, by omega, by omega, Lib.hid (by simp), Lib.hid (by simp [Dc.valB]), Lib.hid rfl, R.out.1, R.out.2.1, R.out.2.2.1, R.out.2.2.2⟩
  case round =>
    obtain ⟨k, cy, zc, O, hk, rfl, rfl, hzc, hz1, hz2, hcy, hlow, hval, hdr, hr1, hr2, hr3, hB⟩ := hrel
    by_cases hk24 : k = 24
    · subst hk24
      have hO : O.take 24 = O := List.take_of_length_le (by rw [hr1.len]; exact Nat.le_refl _)
      have ha : a.take 24 = a := List.take_of_length_le (by rw [HA.out.len]; exact Nat.le_refl _)
      have hb : b.take 24 = b := List.take_of_length_le (by rw [HB.out.len]; exact Nat.le_refl _)
      have hN : Hid (Num O) := Lib.hid ⟨hr1.len, by have := hlow.out; rwa [hO] at this⟩
      have hV : Hid (Dc.valB O = Dc.valB a - Dc.valB b) := Lib.hid (by
        have h3 := hval.out
        rw [hO, ha, hb] at h3
        have h4 := Dc.valB_lt hN.out.low
        rw [hr1.len] at h4
        have h5 := hle.out
        rw [← top] at h3 h4
        have h6 : cy = 0 ∨ cy = 1 := by omega
        rcases h6 with rfl | rfl <;> omega)
      have hl := hr1.len
      have R3 : Hid _ := Lib.hid (hr3.set hr1.len)
      clear hO ha hb hk hlow hval hdr
      go_wp2_with (first
        | (refine wp_loadN hr1 rfl _ rfl rfl ?_)
        | (refine wp_storeN hr3 hl rfl _ _ rfl rfl rfl ?_))
      (try simp only [Exit.inBlock, Exit.then]); refine bodyPost_ret (R3.out.result rfl rfl) rfl ?_
      exact ⟨⟨O, rfl, hN.out, hV.out⟩, below_setRow hB (by omega) _⟩
    · have hk' : k < 24 := by omega
      have c1 := hr1.cell hk'
      have c2 := hr2.cell hk'
      have f1 := hr1.open (j := k)
      have j0 : (0 : Int) ≤ (k : Int) := by omega
      have j1 : (k : Int) < 24 := by omega
      obtain ⟨x, hx⟩ : ∃ x, a.getD k 0 = x := ⟨_, rfl⟩
      obtain ⟨y, hy⟩ : ∃ y, b.getD k 0 = y := ⟨_, rfl⟩
      have hxl : x < 1000000000 := by rw [← hx]; exact HA.out.at k
      have hyl : y < 1000000000 := by rw [← hy]; exact HB.out.at k
      rw [drop_at hdr.out, hx] at c1
      rw [hy] at c2
      have eA : Hid (Dc.valB (a.take (k + 1)) = Dc.valB (a.take k) + 1000000000 ^ k * x) := Lib.hid (by rw [Dc.valB_take (by rw [HA.out.len]; exact hk'), hx])
      have eB : Hid (Dc.valB (b.take (k + 1)) = Dc.valB (b.take k) + 1000000000 ^ k * y) := Lib.hid (by rw [Dc.valB_take (by rw [HB.out.len]; exact hk'), hy])
      have pw : Hid (1000000000 ^ (k + 1) = 1000000000 ^ k * 1000000000) := Lib.hid (Nat.pow_succ ..)
      clear hx hy hk24
      rcases Nat.lt_or_ge x (y + cy) with hxy | hxy
      · rcases Nat.lt_or_ge (y + cy) (x + 1000000000) with hu | hu
        · obtain ⟨u, hu'⟩ : ∃ u, y + cy = x + u := ⟨y + cy - x, by omega⟩
          obtain ⟨m, hm⟩ : ∃ m, m + u = 1000000000 := ⟨1000000000 - u, by omega⟩
          have hvi : Hid ((x : Int) - (y : Int) + zc = -(u : Int)) := Lib.hid (by have := hzc.out; omega)
          have q1 : Int.tdiv (-(u : Int)) 1000000000 = 0 := by rw [Int.neg_tdiv, show Int.tdiv (u : Int) 1000000000 = ((u / 1000000000 : Nat) : Int) from rfl, Nat.div_eq_of_lt (by omega)]; rfl
          have q2 : Int.tmod (-(u : Int)) 1000000000 = -(u : Int) := by rw [Int.neg_tmod, show Int.tmod (u : Int) 1000000000 = ((u % 1000000000 : Nat) : Int) from rfl, Nat.mod_eq_of_lt (by omega)]
          have q3 : -(u : Int) + 1000000000 = (m : Int) := by omega
          have q4 : decide (-(u : Int) < 0) = true := decide_eq_true (by omega)
          have hval2 : Hid (Dc.valB ((O.set k m).take (k + 1)) + Dc.valB (b.take (k + 1)) = Dc.valB (a.take (k + 1)) + 1000000000 ^ (k + 1) * 1) := Lib.hid (by
            rw [step_take hr1.len hk', eA.out, eB.out, pw.out]
            have h3 := hval.out
            have h4 : 1000000000 ^ k * m + 1000000000 ^ k * y + 1000000000 ^ k * cy = 1000000000 ^ k * x + 1000000000 ^ k * 1000000000 := by
              rw [← Nat.mul_add, ← Nat.mul_add, ← Nat.mul_add]; congr 1; omega
            omega)
          have hml : m < 1000000000 := by omega
          have hul : u ≤ 1000000000 := by omega
          have hup : 1 ≤ u := by omega
          have hlow2 : Hid (∀ d ∈ (O.set k m).take (k + 1), d < 1000000000) := Lib.hid (low_step hr1.len hk' hlow.out hml)
          have hdr2 : Hid ((O.set k m).drop (k + 1) = a.drop (k + 1)) := Lib.hid (drop_step hdr.out)
          have hzn : zc ≤ 0 := by have := hzc.out; omega
          clear hlow hval hdr hm hu' hxy hu
          go_wp2
          go_quiet (exact Calls.quiet_of_same (pminus1_any _ _ _ (-(u : Int)) (by omega) (by omega) (by omega) (by omega) (by omega) (by omega) hvi.out _))
          go_wp2
          go_roundw
          case rel => exact ⟨k + 1, 1, -1, O.set k m, by omega, rfl, rfl, Lib.hid rfl, by omega, by omega, by omega, hlow2, hval2, hdr2, (hr1.drew _).put k _, (hr2.drew _).apart (by omega) k _, (hr3.drew _).apart (by omega) k _, (below_drewN hB _).setCell (p := ⟨w.heap.size, k, none⟩) (Nat.le_refl _) _⟩
          case measure => simp [intOf]; omega
        · obtain rfl : x = 0 := by omega
          obtain rfl : y = 999999999 := by omega
          obtain rfl : cy = 1 := by omega
          have hvi : Hid (((0 : Nat) : Int) - ((999999999 : Nat) : Int) + zc = -1000000000) := Lib.hid (by have := hzc.out; omega)
          have hval2 : Hid (Dc.valB ((O.set k 0).take (k + 1)) + Dc.valB (b.take (k + 1)) = Dc.valB (a.take (k + 1)) + 1000000000 ^ (k + 1) * 1) := Lib.hid (by
            rw [step_take hr1.len hk', eA.out, eB.out, pw.out]
            have h3 := hval.out
            omega)
          have hlow2 : Hid (∀ d ∈ (O.set k 0).take (k + 1), d < 1000000000) := Lib.hid (low_step hr1.len hk' hlow.out (by decide))
          have hdr2 : Hid ((O.set k 0).drop (k + 1) = a.drop (k + 1)) := Lib.hid (drop_step hdr.out)
          have hzn : zc ≤ 0 := by have := hzc.out; omega
          clear hlow hval hdr hxy hu
          go_wp2
          go_quiet (exact Calls.quiet_of_same (pminus1_any _ _ _ (-1000000000) (by decide) (by decide) (by decide) (by decide) (by omega) (by omega) hvi.out _))
          go_wp2
          go_roundw
          case rel => exact ⟨k + 1, 1, -1, O.set k 0, by omega, rfl, rfl, Lib.hid rfl, by omega, by omega, by omega, hlow2, hval2, hdr2, (hr1.drew _).put k _, (hr2.drew _).apart (by omega) k _, (hr3.drew _).apart (by omega) k _, (below_drewN hB _).setCell (p := ⟨w.heap.size, k, none⟩) (Nat.le_refl _) _⟩
          case measure => simp [intOf]; omega
      · obtain ⟨m, hm⟩ : ∃ m, y + cy + m = x := ⟨x - (y + cy), by omega⟩
        have hvi : Hid ((x : Int) - (y : Int) + zc = (m : Int)) := Lib.hid (by have := hzc.out; omega)
        have q1 : Int.tdiv (m : Int) 1000000000 = 0 := by rw [show Int.tdiv (m : Int) 1000000000 = ((m / 1000000000 : Nat) : Int) from rfl, Nat.div_eq_of_lt (by omega)]; rfl
        have q2 : Int.tmod (m : Int) 1000000000 = (m : Int) := by rw [show Int.tmod (m : Int) 1000000000 = ((m % 1000000000 : Nat) : Int) from rfl, Nat.mod_eq_of_lt (by omega)]
        have hval2 : Hid (Dc.valB ((O.set k m).take (k + 1)) + Dc.valB (b.take (k + 1)) = Dc.valB (a.take (k + 1)) + 1000000000 ^ (k + 1) * 0) := Lib.hid (by
          rw [step_take hr1.len hk', eA.out, eB.out, pw.out]
          have h3 := hval.out
          have h4 : 1000000000 ^ k * m + 1000000000 ^ k * y + 1000000000 ^ k * cy = 1000000000 ^ k * x := by
            rw [← Nat.mul_add, ← Nat.mul_add]; congr 1; omega
          omega)
        have hml : m < 1000000000 := by omega
        have hlow2 : Hid (∀ d ∈ (O.set k m).take (k + 1), d < 1000000000) := Lib.hid (low_step hr1.len hk' hlow.out hml)
        have hdr2 : Hid ((O.set k m).drop (k + 1) = a.drop (k + 1)) := Lib.hid (drop_step hdr.out)
        have hzn : zc ≤ 0 := by have := hzc.out; omega
        clear hlow hval hdr hm hxy
        go_wp2
        go_quiet (exact Calls.quiet_of_same (pminus1_any _ _ _ (m : Int) (by omega) (by omega) (by omega) (by omega) (by omega) (by omega) hvi.out _))
        go_wp2
        go_roundw
        case rel => exact ⟨k + 1, 0, 0, O.set k m, by omega, rfl, rfl, Lib.hid rfl, by omega, by omega, by omega, hlow2, hval2, hdr2, (hr1.drew _).put k _, (hr2.drew _).apart (by omega) k _, (hr3.drew _).apart (by omega) k _, (below_drewN hB _).setCell (p := ⟨w.heap.size, k, none⟩) (Nat.le_refl _) _⟩
        case measure => simp [intOf]; omega
end Go.Proofs.YthmmjihldkjhhaaGreatDoor
