/-
  What 'over' of the reference returns. Conditions: the sizes; rows of digits; the divisor is not 0.
-/
import Derived.Test.YthmmjihldkjhhaaGreatDoorRtimes
namespace Go.Proofs.YthmmjihldkjhhaaGreatDoor
open Go Go.RowKit

theorem rminus_val (s t : ByteArray) (hs : s.size ≤ 1000) (ht : t.size ≤ 1000) (h1 : Digs s) (h2 : Digs t) (hle : Dc.val (bts t) ≤ Dc.val (bts s)) (w : World) : Calls Tryz.prog 80 #[.string s, .string t] w fun e w' => (∃ r : ByteArray, e = .returned (.string r) ∧ bts r = Dc.digs (Dc.val (bts s) - Dc.val (bts t))) ∧ Below w.heap.size w w' := by
  refine (rminus_any s t hs ht h1 h2 hle w).mono ?_
  rintro e w' ⟨⟨r, rfl, rfl⟩, hb⟩
  exact ⟨⟨_, rfl, bts_digs _⟩, hb⟩
theorem rless_true (s t : ByteArray) (hs : s.size ≤ 1000000) (ht : t.size ≤ 1000000) (h1 : Digs s) (h2 : Digs t) (h : Dc.val (bts s) < Dc.val (bts t)) (w : World) : Calls Tryz.prog 58 #[.string s, .string t] w fun e w' => e = .returned (.bool true) ∧ w = w' :=
  (rless_any s t hs ht h1 h2 w).mono fun _ _ ⟨he, hw⟩ => ⟨by rw [he, decide_eq_true h], hw⟩
theorem rless_false (s t : ByteArray) (hs : s.size ≤ 1000000) (ht : t.size ≤ 1000000) (h1 : Digs s) (h2 : Digs t) (h : ¬ Dc.val (bts s) < Dc.val (bts t)) (w : World) : Calls Tryz.prog 58 #[.string s, .string t] w fun e w' => e = .returned (.bool false) ∧ w = w' :=
  (rless_any s t hs ht h1 h2 w).mono fun _ _ ⟨he, hw⟩ => ⟨by rw [he, decide_eq_false h], hw⟩
theorem div_step {v M x j dg : Nat} (hx : x < M) (h : x + j * M = v % M * 10 + dg) : (v * 10 + dg) / M = v / M * 10 + j ∧ (v * 10 + dg) % M = x := by
  have e : v * 10 + dg = x + M * (v / M * 10 + j) := by
    have := Nat.div_add_mod v M
    have e1 : v * 10 = M * (v / M) * 10 + v % M * 10 := by rw [← Nat.add_mul, this]
    rw [Nat.mul_add, ← Nat.mul_assoc, Nat.mul_comm M j]; omega
  rw [e]
  exact ⟨by rw [Nat.add_mul_div_left _ _ (by omega), Nat.div_eq_of_lt hx, Nat.zero_add], by rw [Nat.add_mul_mod_self_left, Nat.mod_eq_of_lt hx]⟩
theorem ret_str2 {s t s' t' : ByteArray} (h : s = s') (h2 : t = t') : Ending.returned (.tuple #[.string s, .string t]) = .returned (.tuple #[.string s', .string t']) := by rw [h, h2]

set_option maxRecDepth 100000 in
set_option maxHeartbeats 2000000 in
theorem rover_any (s t : ByteArray) (hs : s.size ≤ 200) (ht : t.size ≤ 200) (h1 : Digs s) (h2 : Digs t) (hM : 0 < Dc.val (bts t)) (w : World) : Calls Tryz.prog 53 #[.string s, .string t] w fun e w' =>
    (∃ q r : ByteArray, e = .returned (.tuple #[.string q, .string r]) ∧ q = str (Dc.digs (Dc.val (bts s) / Dc.val (bts t))) ∧ r = str (Dc.digs (Dc.val (bts s) % Dc.val (bts t)))) ∧ Below w.heap.size w w' := by
  have H1 : Hid _ := Lib.hid h1
  have H2 : Hid _ := Lib.hid h2
  have HM : Hid _ := Lib.hid hM
  have hmb : Hid (Dc.val (bts t) < 10 ^ t.size) := Lib.hid (by have := Dc.val_lt h2.all; rwa [bts_length] at this)
  clear h1 h2 hM
  have ht1 : t.size ≤ 1000 := by omega
  have ht2 : t.size ≤ 1000000 := by omega
  go_enter Tryz.func53, Tryz.ntmps53
  go_wp2
  go_loopw [6, 7, 8] (fun v u i wr => ∃ (k : Nat) (S R : ByteArray), k ≤ s.size ∧ i = .int .i64 k ∧ v = .string S ∧ u = .string R ∧ S.size ≤ 200 ∧ Hid (S.size = k) ∧ R.size ≤ 1000 ∧ Hid ((bts S).all Dc.dig = true) ∧ Hid (Dc.val (bts S) = Dc.val ((bts s).take k) / Dc.val (bts t)) ∧ Hid (bts R = Dc.digs (Dc.val ((bts s).take k) % Dc.val (bts t))) ∧ Below w.heap.size w wr) (fun _ _ i _ => s.size - (intOf i).toNat)
  case atStart => exact ⟨0, ⟨#[]⟩, ⟨#[48]⟩, Nat.zero_le _, rfl, rfl, rfl, by decide, Lib.hid rfl, by decide, Lib.hid rfl, Lib.hid (by simp [Dc.val]; decide), Lib.hid (by simp [Dc.val]; decide), Below.refl _ _⟩
  case round =>
    obtain ⟨k, S, R, hk, rfl, rfl, rfl, hS, hSk, hR, hdS, hvS, hbR, hB⟩ := hrel
    by_cases hlt : k < s.size
    · obtain ⟨c, hc⟩ : ∃ c, (s[k]'hlt).toNat = c := ⟨_, rfl⟩
      have hcd : 48 ≤ c ∧ c ≤ 57 := Dc.dig_iff.1 (List.all_eq_true.1 H1.out.all c (by rw [← hc, ← bts_get s k hlt]; exact List.getElem_mem _))
      obtain ⟨c1, c2⟩ := hcd
      obtain ⟨v, hv⟩ : ∃ v, Dc.val ((bts s).take k) = v := ⟨_, rfl⟩
      have hv' : Hid (Dc.val ((bts s).take (k + 1)) = v * 10 + (c - 48)) := Lib.hid (by rw [take_val hlt, hc, hv])
      rw [hv] at hvS hbR
      obtain ⟨M, hMe⟩ : ∃ M, Dc.val (bts t) = M := ⟨_, rfl⟩
      obtain ⟨x1, hx1⟩ : ∃ x, s.extract k (k + 1) = x := ⟨_, rfl⟩
      have hbx : bts x1 = [c] := by
        rw [← hx1, bts_extract, List.drop_take, Nat.add_sub_cancel_left, Dc.drop_getD (by rw [bts_length]; exact hlt), ← hc, byte_eq hlt]; rfl
      obtain ⟨R1, hR1⟩ : ∃ R1, R ++ x1 = R1 := ⟨_, rfl⟩
      have hbR1 : bts R1 = Dc.digs (v % Dc.val (bts t)) ++ [c] := by rw [← hR1, str_add, hbR.out, hbx]
      have hRd : Hid (Digs R1) := Lib.hid ⟨by rw [hbR1, List.all_append, Dc.digs_dig]; simp [Dc.dig, c1, c2], by rw [hbR1]; simp⟩
      have hRv : Hid (Dc.val (bts R1) = v % Dc.val (bts t) * 10 + (c - 48)) := Lib.hid (by rw [hbR1, Dc.val_snoc, Dc.val_digs])
      have hxs : x1.size = 1 := by rw [← bts_length, hbx]; rfl
      have hRl : R1.size ≤ 1000000 := by rw [← bts_length, ← hR1, str_add, List.length_append, bts_length, bts_length]; omega
      have hx1s : x1.size ≤ 1 := by omega
      have HV : Hid _ := Lib.hid hv
      have HMe : Hid _ := Lib.hid hMe
      clear hbx hbR1 hbR hv hMe hxs
      go_wp2_with (go_at_call 68; refine (rbare_digs R1 hRl hRd.out _).mono ?_; rintro e w4 ⟨⟨R2, rfl, hr⟩, rfl⟩; have HR2 : Hid _ := Lib.hid hr; clear hr)
      obtain ⟨wo, rfl⟩ : ∃ wo : World, wo = wr := ⟨_, rfl⟩
      go_loopw [7, 9] (fun u q wr => ∃ (j z x : Nat) (X : ByteArray), z = 48 + j ∧ z ≤ 57 ∧ q = .int .u8 (z : Int) ∧ u = .string X ∧ X.size ≤ 1000 ∧ Hid (bts X = Dc.digs x) ∧ Hid (x + j * M = v % M * 10 + (c - 48)) ∧ Below w.heap.size w wr) (fun u _ _ => match u with | .string X => Dc.val (bts X) | _ => 0)
      case atStart =>
        have hb2 : bts R2 = Dc.digs (v % M * 10 + (c - 48)) := by rw [HR2.out, bts_digs, hRv.out, HMe.out]
        refine ⟨0, 48, _, R2, rfl, by omega, rfl, rfl, ?_, Lib.hid hb2, Lib.hid (by omega), hB⟩
        have hm : v % M < M := Nat.mod_lt _ (by rw [← HMe.out]; exact HM.out)
        have h3 : v % M * 10 + (c - 48) < 10 ^ (t.size + 1) := by
          have := hmb.out
          rw [HMe.out] at this
          rw [Nat.pow_succ]; omega
        have h4 := (Dc.digs_length (n := v % M * 10 + (c - 48)) (k := t.size + 1) (by omega)).2 h3
        rw [← bts_length, hb2]; omega
      case round =>
        obtain ⟨j, z, x, X, hz, hz57, rfl, rfl, hX, hbX, hxj, hB2⟩ := hrel
        have HZ : Hid _ := Lib.hid hz
        have hXd : Hid (Digs X) := Lib.hid ⟨by rw [hbX.out]; exact Dc.digs_dig x, by rw [hbX.out]; exact Dc.digs_ne x⟩
        have hXv : Hid (Dc.val (bts X) = x) := Lib.hid (by rw [hbX.out, Dc.val_digs])
        have hX2 : X.size ≤ 1000000 := by omega
        have hmod : Hid (v % M < M) := Lib.hid (Nat.mod_lt _ (by rw [← HMe.out]; exact HM.out))
        clear hz
        by_cases hxM : x < M
        · have C : Hid (Dc.val (bts X) < Dc.val (bts t)) := Lib.hid (by rw [hXv.out, HMe.out]; exact hxM)
          have HxM : Hid _ := Lib.hid hxM
          have es : (convert 58 9 (.slice (some ⟨wr.heap.size, 0, none⟩) 1 1)).run Tryz.prog (wr.alloc (.cells #[.int .u8 (z : Int)] 5)) = .ok (.string (str [z])) (wr.alloc (.cells #[.int .u8 (z : Int)] 5)) := run_str_new wr [(z : Int)] 1
          obtain ⟨S1, hS1⟩ : ∃ S1, S ++ str [z] = S1 := ⟨_, rfl⟩
          have hbS1 : bts S1 = bts S ++ [z] := by rw [← hS1, str_add, bts_str [z] (by simp; omega)]
          have hzs : (str [z]).size ≤ 1 := Nat.le_of_eq (str_size _)
          have hS1l : S1.size = S.size + 1 := by rw [← bts_length, hbS1, List.length_append, bts_length]; rfl
          have HS1 : Hid (S1.size = k + 1) := Lib.hid (by rw [hS1l, hSk.out])
          have HS1d : Hid ((bts S1).all Dc.dig = true) := Lib.hid (by rw [hbS1, List.all_append, hdS.out]; simp [Dc.dig]; have := HZ.out; omega)
          have hds := div_step (v := v) (dg := c - 48) hxM hxj.out
          have HS1v : Hid (Dc.val (bts S1) = Dc.val ((bts s).take (k + 1)) / Dc.val (bts t)) := Lib.hid (by
            rw [hbS1, Dc.val_snoc, hvS.out, hv'.out, HMe.out, hds.1]; have := HZ.out; omega)
          have HXb : Hid (bts X = Dc.digs (Dc.val ((bts s).take (k + 1)) % Dc.val (bts t))) := Lib.hid (by rw [hbX.out, hv'.out, HMe.out, hds.2])
          clear hxM hbS1 hS1l hds hXv hbX hxj
          go_wp2_with (go_at_call 58; refine (rless_true X t hX2 ht2 hXd.out H2.out C.out _).mono ?_; rintro e w3 ⟨rfl, rfl⟩)
          go_roundw
          case rel => exact ⟨k + 1, S1, X, by omega, by simp, rfl, rfl, by have := HS1.out; omega, HS1, hX, HS1d, HS1v, HXb, hB2.alloc hB2.size _⟩
          case measure => simp [intOf]; omega
        · have C : Hid (¬ Dc.val (bts X) < Dc.val (bts t)) := Lib.hid (by rw [hXv.out, HMe.out]; exact hxM)
          have C' : Hid (Dc.val (bts t) ≤ Dc.val (bts X)) := Lib.hid (by have := C.out; omega)
          have hj9 : z < 57 := by
            have h5 := hxj.out
            have h6 := hmod.out
            have h7 := HZ.out
            have h8 : j * M + M ≤ v % M * 10 + (c - 48) := by omega
            rcases Nat.lt_or_ge j 9 with h9 | h9
            · omega
            · have : 9 * M ≤ j * M := Nat.mul_le_mul_right _ h9
              omega
          have hMp : Hid (0 < M) := Lib.hid (by rw [← HMe.out]; exact HM.out)
          have hge : Hid (M ≤ x) := Lib.hid (by omega)
          clear hxM
          go_wp2_with (first
            | (go_at_call 58; refine (rless_false X t hX2 ht2 hXd.out H2.out C.out _).mono ?_; rintro e w3 ⟨rfl, rfl⟩)
            | (go_at_call 80; refine (rminus_val X t hX ht1 hXd.out H2.out C'.out _).mono ?_; rintro e w3 ⟨⟨X2, rfl, hx2⟩, hb3⟩; have HX2 : Hid _ := Lib.hid hx2; clear hx2))
          have hx2 : bts X2 = Dc.digs (x - M) := by rw [HX2.out, hXv.out, HMe.out]
          go_roundw
          case rel =>
            refine ⟨j + 1, z + 1, x - M, X2, by have := HZ.out; omega, by omega, by simp, rfl, ?_, Lib.hid hx2, Lib.hid ?_, hB2.trans (hb3.mono hB2.size)⟩
            · have h9 : (Dc.digs (x - M)).length ≤ (Dc.digs x).length := (Dc.digs_length (Dc.digs_pos x)).2 (by
                have := (Dc.digs_length (n := x) (Dc.digs_pos x)).1 (Nat.le_refl _); omega)
              rw [← bts_length, hx2]
              rw [← bts_length, hbX.out] at hX
              omega
            · have := hxj.out; have := hge.out; rw [Nat.succ_mul]; omega
          case measure =>
            simp only [hx2, Dc.val_digs, hXv.out]
            have := hge.out; have := hMp.out; omega
    · have hke : (bts s).take k = bts s := List.take_of_length_le (by rw [bts_length]; omega)
      rw [hke] at hvS hbR
      have hSz : S.size ≤ 1000000 := by omega
      have hSd : Hid (Digs S) := Lib.hid ⟨hdS.out, fun h => by
        have h3 := hSk.out
        rw [← bts_length, h] at h3
        have h4 := H1.out.ne
        exact h4 (List.length_eq_zero_iff.1 (by rw [bts_length]; simp at h3; omega))⟩
      clear hke
      go_wp2_with (go_at_call 68; refine (rbare_digs S hSz hSd.out _).mono ?_; rintro e w4 ⟨⟨r, rfl, hr⟩, rfl⟩; have HRR : Hid _ := Lib.hid hr; clear hr)
      go_ret2
      first
        | exact ⟨⟨_, _, rfl, by rw [HRR.out, hvS.out], by rw [← hbR.out, str_bts]⟩, hB⟩
        | exact ⟨ret_str2 (by rw [HRR.out, hvS.out]) (by rw [← hbR.out, str_bts]), hB⟩
end Go.Proofs.YthmmjihldkjhhaaGreatDoor
