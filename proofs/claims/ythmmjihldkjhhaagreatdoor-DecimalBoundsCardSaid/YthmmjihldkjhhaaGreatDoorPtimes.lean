/-
  Numbers of 24 elements: what 'times' returns.
-/
import Derived.Test.YthmmjihldkjhhaaGreatDoorPcarry
namespace Go.Proofs.YthmmjihldkjhhaaGreatDoor
open Go Go.RowKit

theorem rows4 (w : World) (a b : List Nat) (ha : a.length = 24) (hb : b.length = 24) : ∃ W, W = (((w.alloc (.cells (numV a) 61)).alloc (.cells (numV b) 61)).alloc (.cells (numV (List.replicate 24 0)) 61)).alloc (.cells (numV (List.replicate 24 0)) 61) ∧
    Row24 W w.heap.size a ∧ Row24 W (w.heap.size + 1) b ∧ Row24 W (w.heap.size + 1 + 1) (List.replicate 24 0) ∧ Row24 W (w.heap.size + 1 + 1 + 1) (List.replicate 24 0) ∧ Below w.heap.size w W := by
  obtain ⟨h1, h2, h3, h4⟩ := rows3 w a b ha hb
  refine ⟨_, rfl, h1.old _, h2.old _, h3.old _, ?_, h4.alloc h4.size _⟩
  have := Row24.new (((w.alloc (.cells (numV a) 61)).alloc (.cells (numV b) 61)).alloc (.cells (numV (List.replicate 24 0)) 61)) (List.replicate 24 0) rfl
  rwa [show (((w.alloc (.cells (numV a) 61)).alloc (.cells (numV b) 61)).alloc (.cells (numV (List.replicate 24 0)) 61)).heap.size = w.heap.size + 1 + 1 + 1 by
    rw [show ∀ (u : World) (o : Obj), (u.alloc o).heap.size = u.heap.size + 1 from fun u o => Array.size_push _, show ∀ (u : World) (o : Obj), (u.alloc o).heap.size = u.heap.size + 1 from fun u o => Array.size_push _, show ∀ (u : World) (o : Obj), (u.alloc o).heap.size = u.heap.size + 1 from fun u o => Array.size_push _]] at this
theorem valB_low {l : List Nat} (h : Num l) : Dc.valB l < top := by
  have := Dc.valB_lt h.low
  rwa [h.len] at this
/-- The product's last elements have no room. -/
theorem times_row {b : List Nat} (hb : b.length = 24) {i x V c v0 : Nat} (hi : i ≤ 24) (hV : V < top) (h : V + 1000000000 ^ 24 * c = v0 + 1000000000 ^ i * (x * Dc.valB (b.take (24 - i)))) : V = (v0 + 1000000000 ^ i * x * Dc.valB b) % top := by
  have e := Dc.valB_split b (24 - i) (by omega)
  have e2 : 1000000000 ^ i * 1000000000 ^ (24 - i) = top := by rw [← Nat.pow_add, Nat.add_sub_cancel' hi]; rfl
  have e3 : v0 + 1000000000 ^ i * x * Dc.valB b = V + top * (c + x * Dc.valB (b.drop (24 - i))) := by
    rw [e, Nat.mul_add, Nat.mul_add, Nat.mul_assoc, Nat.mul_assoc, ← Nat.add_assoc, ← h, Nat.mul_left_comm x, ← Nat.mul_assoc (1000000000 ^ i), e2]
    exact Nat.add_assoc ..
  rw [e3, Nat.add_mul_mod_self_left, Nat.mod_eq_of_lt hV]
theorem times_next {v0 A bv p x : Nat} (h : v0 = A * bv % top) : (v0 + p * x * bv) % top = (A + p * x) * bv % top := by
  rw [h, Nat.add_mul, Nat.mod_add_mod]

set_option maxRecDepth 100000 in
set_option maxHeartbeats 4000000 in
theorem ptimes_any (a b : List Nat) (ha : Num a) (hb : Num b) (w : World) : Calls Tryz.prog 60 #[.agg (numV a), .agg (numV b)] w fun e w' => (∃ O : List Nat, e = .returned (.agg (numV O)) ∧ Num O ∧ Dc.valB O = Dc.valB a * Dc.valB b % top) ∧ Below w.heap.size w w' := by
  have HA : Hid _ := Lib.hid ha
  have HB : Hid _ := Lib.hid hb
  have R : Hid _ := Lib.hid (rows4 w a b ha.len hb.len)
  clear ha hb
  go_enter Tryz.func60, Tryz.ntmps60
  go_wp2
  go_loopw [10] (fun i wr => ∃ (k : Nat) (O : List Nat), k ≤ 24 ∧ i = .int .i64 (k : Int) ∧ Hid (∀ d ∈ O, d < 1000000000) ∧ Hid (Dc.valB O = Dc.valB (a.take k) * Dc.valB b % top) ∧ Row24 wr w.heap.size a ∧ Row24 wr (w.heap.size + 1) b ∧ Row24 wr (w.heap.size + 1 + 1) (List.replicate 24 0) ∧ Row24 wr (w.heap.size + 1 + 1 + 1) O ∧ Below w.heap.size w wr) (fun i _ => 24 - (intOf i).toNat)
  case atStart =>
    obtain ⟨W, rfl, h1, h2, h3, h4, h5⟩ := R.out
    exact ⟨0, List.replicate 24 0, Nat.zero_le _, rfl, Lib.hid Num.zeros.low, Lib.hid (by rw [Dc.valB_zeros]; simp [Dc.valB]), h1, h2, h3, h4, h5⟩
  case round =>
    obtain ⟨i, O, hi, rfl, hlow, hval, hr1, hr2, hr3, hr4, hB⟩ := hrel
    by_cases hi24 : i = 24
    · subst hi24
      have ha : a.take 24 = a := List.take_of_length_le (by rw [HA.out.len]; exact Nat.le_refl _)
      have hN : Hid (Num O) := Lib.hid ⟨hr4.len, hlow.out⟩
      have hV : Hid (Dc.valB O = Dc.valB a * Dc.valB b % top) := Lib.hid (by have := hval.out; rwa [ha] at this)
      have hl := hr4.len
      have R3 : Hid _ := Lib.hid (hr3.set hl)
      clear ha hi hlow hval
      go_wp2_with (first
        | (refine wp_loadN hr4 rfl _ rfl rfl ?_)
        | (refine wp_storeN hr3 hl rfl _ _ rfl rfl rfl ?_))
      (try simp only [Exit.inBlock, Exit.then]); refine bodyPost_ret (R3.out.result rfl rfl) rfl ?_
      exact ⟨⟨O, rfl, hN.out, hV.out⟩, below_setRow hB (by omega) _⟩
    · have hi' : i < 24 := by omega
      have i0 : (0 : Int) ≤ (i : Int) := by omega
      have i1 : (i : Int) < 24 := by omega
      obtain ⟨x, hx⟩ : ∃ x, a.getD i 0 = x := ⟨_, rfl⟩
      have hxl : x < 1000000000 := by rw [← hx]; exact HA.out.at i
      have eA : Hid (Dc.valB (a.take (i + 1)) = Dc.valB (a.take i) + 1000000000 ^ i * x) := Lib.hid (by rw [Dc.valB_take (by rw [HA.out.len]; exact hi'), hx])
      have HX : Hid _ := Lib.hid hx
      clear hx hi24
      go_wp2
      obtain ⟨wo, rfl⟩ : ∃ wo : World, wo = wr := ⟨_, rfl⟩
      go_loopw [7, 8] (fun c q wr => ∃ (j n cy : Nat) (U : List Nat), n = i + j ∧ n ≤ 24 ∧ q = .int .i64 (j : Int) ∧ c = .int .u64 (cy : Int) ∧ cy < 1000000000 ∧ Hid (∀ d ∈ U.take n, d < 1000000000) ∧ Hid (Dc.valB (U.take n) + 1000000000 ^ n * cy = Dc.valB (O.take n) + 1000000000 ^ i * (x * Dc.valB (b.take j))) ∧ Hid (U.drop n = O.drop n) ∧ Row24 wr w.heap.size a ∧ Row24 wr (w.heap.size + 1) b ∧ Row24 wr (w.heap.size + 1 + 1) (List.replicate 24 0) ∧ Row24 wr (w.heap.size + 1 + 1 + 1) U ∧ Below w.heap.size w wr) (fun _ q _ => 24 - (intOf q).toNat)
      case atStart => exact ⟨0, i, 0, O, rfl, by omega, rfl, rfl, by decide, Lib.hid (fun d hd => hlow.out d (List.mem_of_mem_take hd)), Lib.hid (by simp [Dc.valB]), Lib.hid rfl, hr1, hr2, hr3, hr4, hB⟩
      case round =>
        clear hr1 hr2 hr3 hB
        obtain ⟨j, n, cy, U, hn, hn24, rfl, rfl, hcy, hlowU, hvalU, hdr, hr1, hr2, hr3, hrU, hB⟩ := hrel
        have hij : (i : Int) + (j : Int) = (n : Int) := by omega
        by_cases hne : n = 24
        · subst hne
          have hU : U.take 24 = U := List.take_of_length_le (by rw [hrU.len]; exact Nat.le_refl _)
          have hO : O.take 24 = O := List.take_of_length_le (by rw [hr4.len]; exact Nat.le_refl _)
          have hN : Hid (Num U) := Lib.hid ⟨hrU.len, by have := hlowU.out; rwa [hU] at this⟩
          have hV : Hid (Dc.valB U = Dc.valB (a.take (i + 1)) * Dc.valB b % top) := Lib.hid (by
            have h3 := hvalU.out
            rw [hU, hO, show j = 24 - i by omega] at h3
            rw [times_row HB.out.len (by omega) (valB_low hN.out) h3, times_next hval.out, eA.out])
          clear hU hO hlowU hvalU hdr hn hn24
          go_wp2
          go_roundw
          case rel => exact ⟨i + 1, U, by omega, rfl, Lib.hid hN.out.low, hV, hr1, hr2, hr3, hrU, hB⟩
          case measure => simp [intOf]; omega
        · have hn' : n < 24 := by omega
          have hj' : j < 24 := by omega
          have j0 : (0 : Int) ≤ (j : Int) := by omega
          have j1 : (j : Int) < 24 := by omega
          have n0 : (0 : Int) ≤ (n : Int) := by omega
          have n1 : (n : Int) < 24 := by omega
          have c1 := hr1.cell hi'
          have c2 := hr2.cell hj'
          have c3 := hrU.cell hn'
          have f1 := hrU.open (j := n)
          obtain ⟨y, hy⟩ : ∃ y, b.getD j 0 = y := ⟨_, rfl⟩
          obtain ⟨z, hz⟩ : ∃ z, O.getD n 0 = z := ⟨_, rfl⟩
          have hyl : y < 1000000000 := by rw [← hy]; exact HB.out.at j
          have hzl : z < 1000000000 := by rw [← hz]; exact Dc.getD_lt hlow.out n
          rw [HX.out] at c1
          rw [hy] at c2
          rw [drop_at hdr.out, hz] at c3
          obtain ⟨p, hp⟩ : ∃ p, x * y = p := ⟨_, rfl⟩
          have hpl : p ≤ 999999999 * 999999999 := by rw [← hp]; exact Nat.mul_le_mul (by omega) (by omega)
          have hpi : (x : Int) * (y : Int) = (p : Int) := by rw [← hp]; push_cast; rfl
          obtain ⟨v, hv⟩ : ∃ v, z + p + cy = v := ⟨_, rfl⟩
          have hvl : v < 1000000000 * 1000000000 := by omega
          obtain ⟨v1, hv1⟩ : ∃ v1, z + p = v1 := ⟨_, rfl⟩
          have hvi1 : (z : Int) + (p : Int) = (v1 : Int) := by omega
          have hvi : (v1 : Int) + (cy : Int) = (v : Int) := by omega
          have hv1l : v1 < 1000000000 * 1000000000 := by omega
          have eO : Dc.valB (O.take (n + 1)) = Dc.valB (O.take n) + 1000000000 ^ n * z := by rw [Dc.valB_take (by rw [hr4.len]; exact hn'), hz]
          have eB : Dc.valB (b.take (j + 1)) = Dc.valB (b.take j) + 1000000000 ^ j * y := by rw [Dc.valB_take (by rw [HB.out.len]; exact hj'), hy]
          have hval2 : Hid (Dc.valB ((U.set n (v % 1000000000)).take (n + 1)) + 1000000000 ^ (n + 1) * (v / 1000000000) = Dc.valB (O.take (n + 1)) + 1000000000 ^ i * (x * Dc.valB (b.take (j + 1)))) := Lib.hid (by
            rw [step_take hrU.len hn', Nat.pow_succ, Nat.mul_assoc, Nat.add_assoc, ← Nat.mul_add, Nat.mod_add_div, eO, eB, ← hv]
            have h3 := hvalU.out
            have h4 : 1000000000 ^ i * (x * (Dc.valB (b.take j) + 1000000000 ^ j * y)) = 1000000000 ^ i * (x * Dc.valB (b.take j)) + 1000000000 ^ n * p := by
              rw [Nat.mul_add, Nat.mul_add, hn, Nat.pow_add, ← hp, Nat.mul_left_comm x, Nat.mul_assoc (1000000000 ^ i)]
            rw [h4, Nat.mul_add, Nat.mul_add]; omega)
          have hlow2 : Hid (∀ d ∈ (U.set n (v % 1000000000)).take (n + 1), d < 1000000000) := Lib.hid (low_step hrU.len hn' hlowU.out (Nat.mod_lt _ (by decide)))
          have hdr2 : Hid ((U.set n (v % 1000000000)).drop (n + 1) = O.drop (n + 1)) := Lib.hid (drop_step hdr.out)
          have hvd : v / 1000000000 < 1000000000 := Nat.div_lt_of_lt_mul hvl
          have HN : Hid _ := Lib.hid hn
          clear hy hz hp hv hv1 eO eB hlowU hvalU hdr hn hne
          go_wp2
          go_quiet (fail)
          go_wp2
          go_roundw
          case rel => exact ⟨j + 1, n + 1, v / 1000000000, U.set n (v % 1000000000), by have := HN.out; omega, by omega, rfl, by simp, hvd, hlow2, hval2, hdr2, (hr1.drew _).apart (by omega) n _, (hr2.drew _).apart (by omega) n _, (hr3.drew _).apart (by omega) n _, (hrU.drew _).put n _, (below_drewN hB _).setCell (p := ⟨w.heap.size + 1 + 1 + 1, n, none⟩) (by show w.heap.size ≤ w.heap.size + 1 + 1 + 1; omega) _⟩
          case measure => simp [intOf]; omega
end Go.Proofs.YthmmjihldkjhhaaGreatDoor
