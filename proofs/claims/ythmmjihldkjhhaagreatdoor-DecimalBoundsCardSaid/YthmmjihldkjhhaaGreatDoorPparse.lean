/-
  Numbers of 24 elements: what 'parse' returns.
-/
import Derived.Test.YthmmjihldkjhhaaGreatDoorPplus
import Derived.Test.YthmmjihldkjhhaaGreatDoorPfmt
namespace Go.Proofs.YthmmjihldkjhhaaGreatDoor
open Go Go.RowKit

theorem parseU (M : Nat) (hM : M < 18446744073709551615) : ∀ (l : List UInt8) (acc : Nat), (l.map UInt8.toNat).all Dc.dig = true → acc * 10 ^ l.length + Dc.val (l.map UInt8.toNat) ≤ M → Lib.parseUintM M acc l = .ok (acc * 10 ^ l.length + Dc.val (l.map UInt8.toNat))
  | [], acc, _, _ => by simp [Lib.parseUintM, Dc.val]
  | c :: r, acc, hd, h => by
    rw [List.map_cons, List.all_cons, Bool.and_eq_true] at hd
    have hc := Dc.dig_iff.1 hd.1
    rw [List.map_cons, Dc.val_cons, List.length_map, List.length_cons, Nat.pow_succ] at h
    have e : acc * (10 ^ r.length * 10) + ((c.toNat - 48) * 10 ^ r.length + Dc.val (r.map UInt8.toNat)) = (acc * 10 + (c.toNat - 48)) * 10 ^ r.length + Dc.val (r.map UInt8.toNat) := by
      rw [Nat.add_mul, Nat.mul_assoc, Nat.mul_comm 10, Nat.add_assoc]
    rw [e] at h
    have hp := Dc.pow10_pos r.length
    have h1 : acc * 10 + (c.toNat - 48) ≤ M := by
      have : (acc * 10 + (c.toNat - 48)) * 1 ≤ (acc * 10 + (c.toNat - 48)) * 10 ^ r.length := Nat.mul_le_mul_left _ hp
      omega
    rw [List.map_cons, Dc.val_cons, List.length_map, List.length_cons, Nat.pow_succ, e, Lib.parseUintM, if_pos hc, if_neg (by omega), if_neg (by omega)]
    exact parseU M hM r _ hd.2 h
theorem pu_any (s : ByteArray) (h1 : 1 ≤ s.size) (h2 : s.size ≤ 9) (hd : (bts s).all Dc.dig = true) (w : World) : Calls Tryz.prog 81 #[.string s, .int .i64 10, .int .i64 32] w fun e w' => e = .returned (.tuple #[.int .u64 (Dc.val (bts s) : Nat), .nilIface]) ∧ Below w.heap.size w w' := by
  have hv := Dc.val_lt hd
  rw [bts_length] at hv
  have hp : 10 ^ s.size ≤ 10 ^ 9 := Nat.pow_le_pow_right (by decide) h2
  have hne : s.data.toList ≠ [] := fun h => by
    have : s.data.toList.length = s.size := rfl
    rw [h] at this; simp at this; omega
  have h := parseU (2 ^ 32 - 1) (by decide) s.data.toList 0 hd (by rw [Nat.zero_mul, Nat.zero_add]; show Dc.val (bts s) ≤ _; omega)
  rw [Nat.zero_mul, Nat.zero_add] at h
  refine (Tryz.strconv_ParseUint_10_at32_ok s (by omega) (Dc.val (bts s)) (by unfold Lib.parseUintB; rw [if_neg hne]; exact h) w).mono ?_
  rintro e w' ⟨rfl, hw⟩
  refine ⟨rfl, ?_⟩
  rcases hw with rfl | rfl
  · exact Below.refl _ _
  · exact ⟨rfl, rfl, rfl, by rw [Lib.bytesWorld_size]; omega, fun k hk => Lib.bytesWorld_at_old w 5 s k hk⟩
theorem parse_step {s S : ByteArray} {m f : Nat} (hS : bts S = (bts s).take m) (hm : m ≤ s.size) (hf : f = m - 9) : Dc.val ((bts s).take m) = Dc.val ((bts S).drop f) + 10 ^ (m - f) * Dc.val ((bts s).take f) ∧ (bts S).take f = (bts s).take f := by
  have e : (bts S).take f = (bts s).take f := by rw [hS, List.take_take]; congr 1; omega
  refine ⟨?_, e⟩
  rw [← e, ← hS]
  have h := Dc.val_append ((bts S).take f) ((bts S).drop f)
  rw [List.take_append_drop] at h
  rw [h, Nat.add_comm, Nat.mul_comm, List.length_drop, hS, List.length_take, bts_length, Nat.min_eq_left hm]

theorem parse_sum {m f k V v : Nat} {l : List Nat} (hf : f = m - 9) : V + 1000000000 ^ k * (v + 10 ^ (m - f) * Dc.val (l.take f)) = V + 1000000000 ^ k * v + 1000000000 ^ (k + 1) * Dc.val (l.take f) := by
  rcases Nat.lt_or_ge m 9 with h9 | h9
  · have h0 : f = 0 := by omega
    rw [h0, List.take_zero, Dc.val_nil, Nat.mul_zero, Nat.mul_zero]; rfl
  · have e : m - f = 9 := by omega
    have e2 : (10 : Nat) ^ (m - f) = 1000000000 := by rw [e]
    rw [e2, Nat.mul_add, Nat.pow_succ, Nat.add_assoc, Nat.mul_assoc]

set_option maxRecDepth 100000 in
set_option maxHeartbeats 4000000 in
theorem pparse_any (s : ByteArray) (hs : s.size ≤ 216) (hd : (bts s).all Dc.dig = true) (w : World) : Calls Tryz.prog 54 #[.string s] w fun e w' => (∃ O : List Nat, e = .returned (.agg (numV O)) ∧ Num O ∧ Dc.valB O = Dc.val (bts s)) ∧ Below w.heap.size w w' := by
  have HD : Hid _ := Lib.hid hd
  have R1 : Hid (Row24 ((w.alloc (.cells (numV (List.replicate 24 0)) 61)).alloc (.cells (numV (List.replicate 24 0)) 61)) w.heap.size (List.replicate 24 0)) := Lib.hid ((Row24.new w _ rfl).old _)
  have R2 : Hid (Row24 ((w.alloc (.cells (numV (List.replicate 24 0)) 61)).alloc (.cells (numV (List.replicate 24 0)) 61)) (w.heap.size + 1) (List.replicate 24 0)) := Lib.hid (by
    have := Row24.new (w.alloc (.cells (numV (List.replicate 24 0)) 61)) (List.replicate 24 0) rfl
    rwa [show (w.alloc (.cells (numV (List.replicate 24 0)) 61)).heap.size = w.heap.size + 1 from Array.size_push _] at this)
  have B0 : Hid (Below w.heap.size w ((w.alloc (.cells (numV (List.replicate 24 0)) 61)).alloc (.cells (numV (List.replicate 24 0)) 61))) := Lib.hid (((Below.refl _ w).alloc (Nat.le_refl _) _).alloc (((Below.refl _ w).alloc (Nat.le_refl _) _).size) _)
  clear hd
  go_enter Tryz.func54, Tryz.ntmps54
  go_wp2
  go_loopw [0, 4] (fun t i wr => ∃ (k m : Nat) (S : ByteArray) (O : List Nat), k ≤ 24 ∧ i = .int .i64 (k : Int) ∧ t = .string S ∧ m ≤ s.size ∧ Hid (m = 0 ∨ m + 9 * k = s.size) ∧ Hid (bts S = (bts s).take m) ∧ S.size ≤ 216 ∧ Hid (S.size = m) ∧ Hid (∀ d ∈ O, d < 1000000000) ∧ Hid (Dc.val (bts s) = Dc.valB O + 1000000000 ^ k * Dc.val ((bts s).take m)) ∧ Hid (O.drop k = (List.replicate 24 0).drop k) ∧ Row24 wr w.heap.size (List.replicate 24 0) ∧ Row24 wr (w.heap.size + 1) O ∧ Below w.heap.size w wr) (fun t _ _ => match t with | .string X => X.size | _ => 0)
  case atStart => exact ⟨0, s.size, s, List.replicate 24 0, Nat.zero_le _, rfl, rfl, Nat.le_refl _, Lib.hid (Or.inr (by omega)), Lib.hid (by rw [← bts_length, List.take_length]), hs, Lib.hid rfl, Lib.hid Num.zeros.low, Lib.hid (by rw [Dc.valB_zeros, ← bts_length, List.take_length]; simp), Lib.hid rfl, R1.out, R2.out, B0.out⟩
  case round =>
    obtain ⟨k, m, S, O, hk, rfl, rfl, hm, hmk, hS, hSs, hSm, hlow, hval, hdr, hr1, hr2, hB⟩ := hrel
    by_cases hm0 : m = 0
    · subst hm0
      have hSe : S.toList.isEmpty = true := isEmpty_yes hSm.out
      have hN : Hid (Num O) := Lib.hid ⟨hr2.len, hlow.out⟩
      have hV : Hid (Dc.valB O = Dc.val (bts s)) := Lib.hid (by rw [hval.out]; simp [Dc.val])
      have hl := hr2.len
      have R3 : Hid _ := Lib.hid (hr1.set hl)
      clear hmk hS hlow hval hdr hm
      go_wp2_with (first
        | (refine wp_loadN hr2 rfl _ rfl rfl ?_)
        | (refine wp_storeN hr1 hl rfl _ _ rfl rfl rfl ?_))
      (try simp only [Exit.inBlock, Exit.then]); refine bodyPost_ret (R3.out.result rfl rfl) rfl ?_
      exact ⟨⟨O, rfl, hN.out, hV.out⟩, below_setRow hB (Nat.le_refl _) _⟩
    · have hmk2 : m + 9 * k = s.size := by have := hmk.out; omega
      have hk' : k < 24 := by omega
      have k0 : (0 : Int) ≤ (k : Int) := by omega
      have k1 : (k : Int) < 24 := by omega
      have hSe : S.toList.isEmpty = false := isEmpty_no (by have := hSm.out; omega)
      obtain ⟨f, hf⟩ : ∃ f : Nat, f = m - 9 := ⟨_, rfl⟩
      have hmx : max (0 : Int) ((S.size : Int) - 9) = (f : Int) := by have := hSm.out; omega
      have hfS : f ≤ S.size := by have := hSm.out; omega
      obtain ⟨x1, hx1⟩ : ∃ x, S.extract f S.size = x := ⟨_, rfl⟩
      obtain ⟨x2, hx2⟩ : ∃ x, S.extract 0 f = x := ⟨_, rfl⟩
      have hst := parse_step hS.out hm hf
      have hb1 : bts x1 = (bts S).drop f := by rw [← hx1, bts_from]
      have hb2 : bts x2 = (bts s).take f := by rw [← hx2, bts_extract, List.drop_zero, hst.2]
      have hx1s : x1.size = m - f := by rw [← bts_length, hb1, List.length_drop, bts_length, hSm.out]
      have hx2s : x2.size = f := by rw [← bts_length, hb2, List.length_take, bts_length]; omega
      have hd1 : (bts x1).all Dc.dig = true := by
        rw [hb1]; refine List.all_eq_true.2 fun c hc => List.all_eq_true.1 HD.out c ?_
        have := List.mem_of_mem_drop hc
        rw [hS.out] at this
        exact List.mem_of_mem_take this
      obtain ⟨v, hv⟩ : ∃ v, Dc.val (bts x1) = v := ⟨_, rfl⟩
      have C : Hid (∀ w, Calls Tryz.prog 81 #[.string x1, .int .i64 10, .int .i64 32] w fun e w' => e = .returned (.tuple #[.int .u64 (v : Int), .nilIface]) ∧ Below w.heap.size w w') := Lib.hid (by rw [← hv]; exact pu_any x1 (by omega) (by omega) hd1)
      have hvl : v < 1000000000 := by
        have h1 := Dc.val_lt hd1
        rw [hv, bts_length] at h1
        have h2 : 10 ^ x1.size ≤ 10 ^ 9 := Nat.pow_le_pow_right (by decide) (by omega)
        omega
      have f1 := hr2.open (j := k)
      have hzk : O.getD k 0 = 0 := by rw [drop_at hdr.out, List.getD_eq_getElem?_getD, List.getElem?_replicate, if_pos hk']; rfl
      have hval2 : Hid (Dc.val (bts s) = Dc.valB (O.set k v) + 1000000000 ^ (k + 1) * Dc.val ((bts s).take f)) := Lib.hid (by
        have h1 := Dc.valB_set (l := O) (x := v) (by rw [hr2.len]; exact hk')
        rw [hzk, Nat.mul_zero, Nat.add_zero] at h1
        rw [hval.out, h1, hst.1, ← hb1, hv]
        exact parse_sum hf)
      have hlow2 : Hid (∀ d ∈ O.set k v, d < 1000000000) := Lib.hid (fun d hd => by
        rcases List.mem_or_eq_of_mem_set hd with h | h
        · exact hlow.out d h
        · rw [h]; exact hvl)
      have hdr2 : Hid ((O.set k v).drop (k + 1) = (List.replicate 24 0).drop (k + 1)) := Lib.hid (drop_step hdr.out)
      have hx2l : x2.size ≤ 216 := by omega
      have HX2S : Hid _ := Lib.hid hx2s
      have HB2 : Hid _ := Lib.hid hb2
      have hmk3 : Hid (f = 0 ∨ f + 9 * (k + 1) = s.size) := Lib.hid (by omega)
      have hfm : f < m := by omega
      have hfs : f ≤ s.size := by omega
      clear hmk hmk2 hf hst hb1 hb2 hx1s hx2s hd1 hv hzk hlow hval hdr hm0
      go_wp2_with (go_at_call 81; refine (C.out _).mono ?_; rintro e w1 ⟨rfl, hb⟩; have g1 := hr1.keep hb; have g2 := hr2.keep hb; have f2 := g2.open (j := k); have c2 := g2.cell hk'; have HBB : Hid _ := Lib.hid (hB.trans (hb.mono hB.size)))
      go_region
      all_goals go_wp2
      all_goals go_roundw
      case rel => exact ⟨k + 1, f, x2, O.set k v, by omega, rfl, rfl, hfs, hmk3, HB2, hx2l, HX2S, hlow2, hval2, hdr2, (g1.drew _).apart (by omega) k _, (g2.drew _).put k _, (below_drewN HBB.out _).setCell (p := ⟨w.heap.size + 1, k, none⟩) (by show w.heap.size ≤ w.heap.size + 1; omega) _⟩
      case measure => simp only; rw [HX2S.out, hSm.out]; exact hfm
end Go.Proofs.YthmmjihldkjhhaaGreatDoor
