/-
  What 'times' of the reference returns. Conditions: the sizes; rows of digits.
-/
import Derived.Test.YthmmjihldkjhhaaGreatDoorRminus
namespace Go.Proofs.YthmmjihldkjhhaaGreatDoor
open Go Go.RowKit

theorem digs_of (n : Nat) : Digs (str (Dc.digs n)) := ⟨by rw [bts_digs]; exact Dc.digs_dig n, by rw [bts_digs]; exact Dc.digs_ne n⟩
theorem take_val {s : ByteArray} {k : Nat} (h : k < s.size) : Dc.val ((bts s).take (k + 1)) = Dc.val ((bts s).take k) * 10 + ((s[k]'h).toNat - 48) := by
  rw [bts_take_succ s k h, Dc.val_snoc]
theorem rplus_val (s t : ByteArray) (hs : s.size ≤ 1000) (ht : t.size ≤ 1000) (h1 : Digs s) (h2 : Digs t) (w : World) : Calls Tryz.prog 57 #[.string s, .string t] w fun e w' => (∃ r : ByteArray, e = .returned (.string r) ∧ Digs r ∧ r.size = (Dc.digs (Dc.val (bts s) + Dc.val (bts t))).length ∧ Dc.val (bts r) = Dc.val (bts s) + Dc.val (bts t)) ∧ Below w.heap.size w w' := by
  refine (rplus_any s t hs ht h1 h2 w).mono ?_
  rintro e w' ⟨⟨r, rfl, rfl⟩, hb⟩
  exact ⟨⟨_, rfl, digs_of _, str_size _, by rw [bts_digs, Dc.val_digs]⟩, hb⟩

set_option maxRecDepth 100000 in
set_option maxHeartbeats 2000000 in
theorem rtimes_any (s t : ByteArray) (hs : s.size ≤ 200) (ht : t.size ≤ 200) (h1 : Digs s) (h2 : Digs t) (w : World) : Calls Tryz.prog 64 #[.string s, .string t] w fun e w' => (∃ r : ByteArray, e = .returned (.string r) ∧ r = str (Dc.digs (Dc.val (bts s) * Dc.val (bts t)))) ∧ Below w.heap.size w w' := by
  have H1 : Hid _ := Lib.hid h1
  have H2 : Hid _ := Lib.hid h2
  clear h1 h2
  go_enter Tryz.func64, Tryz.ntmps64
  go_wp2
  go_loopw [5, 6] (fun v i wr => ∃ (k : Nat) (S : ByteArray), k ≤ t.size ∧ i = .int .i64 k ∧ v = .string S ∧ S.size ≤ s.size + k + 1 ∧ Hid (Digs S) ∧ Hid (Dc.val (bts S) = Dc.val (bts s) * Dc.val ((bts t).take k)) ∧ Below w.heap.size w wr) (fun _ i _ => t.size - (intOf i).toNat)
  case atStart => exact ⟨0, ⟨#[48]⟩, Nat.zero_le _, rfl, rfl, by show 1 ≤ _; omega, Lib.hid ⟨by decide, by decide⟩, Lib.hid (by simp [Dc.val]; decide), Below.refl _ _⟩
  case round =>
    obtain ⟨k, S, hk, rfl, rfl, hS, hdS, hvS, hB⟩ := hrel
    by_cases hlt : k < t.size
    · obtain ⟨c, hc⟩ : ∃ c, (t[k]'hlt).toNat = c := ⟨_, rfl⟩
      have hcd : 48 ≤ c ∧ c ≤ 57 := Dc.dig_iff.1 (List.all_eq_true.1 H2.out.all c (by rw [← hc, ← bts_get t k hlt]; exact List.getElem_mem _))
      obtain ⟨c1, c2⟩ := hcd
      obtain ⟨S0, hS0⟩ : ∃ S0, S ++ ⟨#[48]⟩ = S0 := ⟨_, rfl⟩
      have hbS0 : bts S0 = bts S ++ [48] := by rw [← hS0, str_add]; rfl
      have hd0 : Hid (Digs S0) := Lib.hid ⟨by rw [hbS0, List.all_append, hdS.out.all]; rfl, by rw [hbS0]; simp⟩
      have hv0 : Hid (Dc.val (bts S0) = Dc.val (bts S) * 10) := Lib.hid (by rw [hbS0, Dc.val_snoc]; omega)
      have hl0 : S0.size ≤ s.size + k + 2 := by rw [← bts_length, hbS0, List.length_append, bts_length]; simp; omega
      have htv : Hid (Dc.val ((bts t).take (k + 1)) = Dc.val ((bts t).take k) * 10 + (c - 48)) := Lib.hid (by rw [take_val hlt, hc])
      have hbt : Hid (Dc.val ((bts t).take (k + 1)) < 10 ^ (k + 1)) := Lib.hid (by
        have := Dc.val_lt (l := (bts t).take (k + 1)) (by
          rw [List.all_eq_true]; exact fun x hx => List.all_eq_true.1 H2.out.all x (List.mem_of_mem_take hx))
        rwa [List.length_take, bts_length, Nat.min_eq_left (by omega)] at this)
      have hbs : Hid (Dc.val (bts s) < 10 ^ s.size) := Lib.hid (by have := Dc.val_lt H1.out.all; rwa [bts_length] at this)
      clear hbS0
      go_wp2
      obtain ⟨wo, rfl⟩ : ∃ wo : World, wo = wr := ⟨_, rfl⟩
      go_loopw [5, 7] (fun v q wr => ∃ (j z : Nat) (X : ByteArray), z = 48 + j ∧ z ≤ c ∧ q = .int .u8 (z : Int) ∧ v = .string X ∧ X.size ≤ s.size + k + 2 ∧ Hid (Digs X) ∧ Hid (Dc.val (bts X) = Dc.val (bts S) * 10 + j * Dc.val (bts s)) ∧ Below w.heap.size w wr) (fun _ q _ => c - (intOf q).toNat)
      case atStart => exact ⟨0, 48, S0, rfl, c1, rfl, rfl, hl0, hd0, Lib.hid (by rw [hv0.out]; omega), hB⟩
      case round =>
        obtain ⟨j, z, X, hz, hzc, rfl, rfl, hX, hdX, hvX, hB2⟩ := hrel
        have HZ : Hid _ := Lib.hid hz
        clear hz
        by_cases hzl : z < c
        · have hX1 : X.size ≤ 1000 := by omega
          have hs1 : s.size ≤ 1000 := by omega
          have hz255 : z < 255 := by omega
          go_wp2_with (go_at_call 57; refine (rplus_val X s hX1 hs1 hdX.out H1.out _).mono ?_; rintro e w3 ⟨⟨r, rfl, hdr, hrl, hrv⟩, hb3⟩; have HDR : Hid _ := Lib.hid hdr; have HRL : Hid _ := Lib.hid hrl; have HRV : Hid _ := Lib.hid hrv; clear hdr hrl hrv)
          go_roundw
          case rel =>
            refine ⟨j + 1, z + 1, r, by have := HZ.out; omega, by omega, by simp, rfl, ?_, HDR, Lib.hid ?_, hB2.trans (hb3.mono hB2.size)⟩
            · have e1 : Dc.val (bts X) + Dc.val (bts s) ≤ Dc.val (bts s) * Dc.val ((bts t).take (k + 1)) := by
                have e2 : Dc.val (bts X) + Dc.val (bts s) = Dc.val (bts s) * (Dc.val ((bts t).take k) * 10 + (j + 1)) := by
                  rw [hvX.out, hvS.out, Nat.mul_add, Nat.mul_add, Nat.mul_comm j, Nat.mul_assoc]; omega
                rw [e2, htv.out]
                exact Nat.mul_le_mul_left _ (by have := HZ.out; omega)
              have e3 : Dc.val (bts s) * Dc.val ((bts t).take (k + 1)) < 10 ^ (s.size + (k + 1)) := by
                rw [Nat.pow_add]
                exact Nat.mul_lt_mul'' hbs.out hbt.out
              have e4 := (Dc.digs_length (n := Dc.val (bts X) + Dc.val (bts s)) (k := s.size + (k + 1)) (by omega)).2 (by omega)
              rw [HRL.out]; omega
            · rw [HRV.out, hvX.out, Nat.succ_mul]; omega
          case measure => simp [intOf]; omega
        · have hze : z = c := by omega
          subst hze
          go_wp2
          go_roundw
          case rel =>
            refine ⟨k + 1, X, by omega, by simp, rfl, by omega, hdX, Lib.hid ?_, hB2⟩
            rw [hvX.out, hvS.out, htv.out, Nat.mul_add, show z - 48 = j by have := HZ.out; omega, Nat.mul_comm j, Nat.mul_assoc]
          case measure => simp [intOf]; omega
    · have hke : (bts t).take k = bts t := List.take_of_length_le (by rw [bts_length]; omega)
      rw [hke] at hvS
      have hS1 : S.size ≤ 1000000 := by omega
      clear hke
      go_wp2_with (go_at_call 68; refine (rbare_digs S hS1 hdS.out _).mono ?_; rintro e w4 ⟨⟨r, rfl, hr⟩, rfl⟩; have HRR : Hid _ := Lib.hid hr; clear hr)
      go_ret
      first
        | exact ⟨⟨_, rfl, by rw [HRR.out, hvS.out]⟩, hB⟩
        | exact ⟨ret_str (by rw [HRR.out, hvS.out]), hB⟩
end Go.Proofs.YthmmjihldkjhhaaGreatDoor
