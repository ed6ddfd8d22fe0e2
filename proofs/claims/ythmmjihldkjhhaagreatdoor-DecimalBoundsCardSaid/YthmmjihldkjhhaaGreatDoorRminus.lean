/-
  What 'minus' of the reference returns. Conditions: the sizes; rows of digits; no less than what is taken away.
-/
import Derived.Test.YthmmjihldkjhhaaGreatDoorRplus
namespace Go.Proofs.YthmmjihldkjhhaaGreatDoor
open Go Go.RowKit

set_option maxRecDepth 100000 in
set_option maxHeartbeats 2000000 in
theorem rminus_any (s t : ByteArray) (hs : s.size ≤ 1000) (ht : t.size ≤ 1000) (h1 : Digs s) (h2 : Digs t) (hle : Dc.val (bts t) ≤ Dc.val (bts s)) (w : World) : Calls Tryz.prog 80 #[.string s, .string t] w fun e w' => (∃ r : ByteArray, e = .returned (.string r) ∧ r = str (Dc.digs (Dc.val (bts s) - Dc.val (bts t)))) ∧ Below w.heap.size w w' := by
  have HLE : Hid _ := Lib.hid hle
  obtain ⟨m, hm⟩ : ∃ m : Nat, m = max s.size t.size := ⟨_, rfl⟩
  have hm1 : 1 ≤ m := by
    have := h1.ne
    rcases Nat.eq_zero_or_pos s.size with h | h
    · exact absurd (List.length_eq_zero_iff.1 (by rw [bts_length]; exact h)) this
    · omega
  have hmx : max (s.size : Int) (t.size : Int) = (m : Int) := by omega
  have hsm : s.size ≤ m := by omega
  have htm : t.size ≤ m := by omega
  have hml : m ≤ 1000 := by omega
  have C1 : Hid (∀ w, Calls Tryz.prog 84 #[.string s, .int .i64 (m : Int)] w fun e w' => (∃ t : ByteArray, e = .returned (.string t) ∧ bts t = longL m (bts s)) ∧ w = w') := Lib.hid (rlong_l s _ m (by omega) (by omega) (by omega) h1.all)
  have C2 : Hid (∀ w, Calls Tryz.prog 84 #[.string t, .int .i64 (m : Int)] w fun e w' => (∃ r : ByteArray, e = .returned (.string r) ∧ bts r = longL m (bts t)) ∧ w = w') := Lib.hid (rlong_l t _ m (by omega) (by omega) (by omega) h2.all)
  have H1 : Hid _ := Lib.hid h1
  have H2 : Hid _ := Lib.hid h2
  clear hm h1 h2 hle
  have tok1 : True := trivial
  go_enter Tryz.func80, Tryz.ntmps80
  go_wp2_with (first
    | (go_at_call 84; have _t := tok1; refine (C1.out _).mono ?_; rintro e w1 ⟨⟨x, rfl, hx⟩, rfl⟩; have HX : Hid _ := Lib.hid hx; have hxl : x.size = m := (by rw [← bts_length, hx, longL_length (by rw [bts_length]; omega)]); clear hx tok1 _t)
    | (go_at_call 84; refine (C2.out _).mono ?_; rintro e w1 ⟨⟨y, rfl, hy⟩, rfl⟩; have HY : Hid _ := Lib.hid hy; have hyl : y.size = m := (by rw [← bts_length, hy, longL_length (by rw [bts_length]; omega)]); clear hy; obtain ⟨cap, w1, hcv, hrow, hb1⟩ := bytes_row w x))
  go_loopw [7, 8] (fun c i wr => ∃ (k cy : Nat) (z : Int) (O : List Nat), k ≤ m ∧ z = (k : Int) - 1 ∧ i = .int .i64 z ∧ c = .int .u8 (cy : Int) ∧ cy ≤ 1 ∧ Hid (O.length = m) ∧
      Hid (Dc.val (O.drop k) + Dc.val ((bts y).drop k) = Dc.val ((bts x).drop k) + cy * 10 ^ (m - k)) ∧ Hid ((O.drop k).all Dc.dig = true) ∧ Row8 wr w.heap.size cap O ∧ Below w.heap.size w wr) (fun _ i _ => (intOf i + 1).toNat)
  case atStart =>
    refine ⟨m, 0, (m : Int) - 1, bts x, Nat.le_refl _, by omega, rfl, rfl, by omega, Lib.hid (by rw [bts_length, hxl]), Lib.hid ?_, Lib.hid ?_, hrow, hb1⟩
    · rw [List.drop_eq_nil_of_le (by rw [bts_length]; omega), List.drop_eq_nil_of_le (by rw [bts_length]; omega)]; simp [Dc.val]
    · rw [List.drop_eq_nil_of_le (by rw [bts_length]; omega)]; rfl
  case round =>
    obtain ⟨k, cy, z, O, hk, hz, rfl, rfl, hcy, hO, hval, hdig, hrowO, hB⟩ := hrel
    clear hrow hcv hb1
    by_cases hk0 : k = 0
    · subst hk0
      obtain rfl : z = -1 := by omega
      have hod : O.all Dc.dig = true := by have := hdig.out; rwa [List.drop_zero] at this
      have hfin : Hid (Dc.val O = Dc.val (bts s) - Dc.val (bts t)) := Lib.hid (by
        have h3 := hval.out
        rw [List.drop_zero, List.drop_zero, List.drop_zero, HX.out, HY.out, longL_val, longL_val] at h3
        have b1 := Dc.val_lt hod
        rw [hO.out] at b1
        have hle := HLE.out
        rw [Nat.sub_zero] at h3
        have hc : cy = 0 ∨ cy = 1 := by omega
        rcases hc with rfl | rfl <;> omega)
      have hbo : bts (str O) = O := bts_str O (dig_lt hod)
      have hso : (str O).size ≤ 1000000 := by rw [str_size, hO.out]; omega
      have hst := hrowO.str
      rw [hO.out] at hst
      obtain ⟨so, hsoe⟩ : ∃ so, str O = so := ⟨_, rfl⟩
      rw [hsoe] at hst hbo hso
      have C3 : Hid _ := Lib.hid (rbare_digs so hso ⟨by rw [hbo]; exact hod, by rw [hbo]; intro h; have := hO.out; rw [h] at this; simp at this; omega⟩)
      have HBO : Hid _ := Lib.hid hbo
      clear hod hbo hval hdig hsoe hz hk
      go_wp2_with (go_at_call 68; refine (C3.out _).mono ?_; rintro e w4 ⟨⟨r, rfl, hr⟩, rfl⟩; have HRR : Hid _ := Lib.hid hr; clear hr)
      go_ret
      first
        | exact ⟨⟨_, rfl, by rw [HRR.out, HBO.out, hfin.out]⟩, hB⟩
        | exact ⟨ret_str (by rw [HRR.out, HBO.out, hfin.out]), hB⟩
    · obtain ⟨j, rfl⟩ : ∃ j, k = j + 1 := ⟨k - 1, by omega⟩
      obtain rfl : z = (j : Int) := by omega
      have hjx : j < x.size := by omega
      have hjy : j < y.size := by omega
      obtain ⟨a, ha⟩ : ∃ a, (x[j]'hjx).toNat = a := ⟨_, rfl⟩
      obtain ⟨b, hb⟩ : ∃ b, (y[j]'hjy).toNat = b := ⟨_, rfl⟩
      have hja : j < (bts x).length := by rw [bts_length]; exact hjx
      have hjb : j < (bts y).length := by rw [bts_length]; exact hjy
      have hag : (bts x).getD j 0 = a := by rw [← ha, byte_eq hjx]; rfl
      have hbg : (bts y).getD j 0 = b := by rw [← hb, byte_eq hjy]; rfl
      have had : 48 ≤ a ∧ a ≤ 57 := Dc.dig_iff.1 (List.all_eq_true.1 (longL_dig H1.out.all) a (by rw [← HX.out, ← hag, List.getD_eq_getElem?_getD, List.getElem?_eq_getElem hja]; exact List.getElem_mem hja))
      have hbd : 48 ≤ b ∧ b ≤ 57 := Dc.dig_iff.1 (List.all_eq_true.1 (longL_dig H2.out.all) b (by rw [← HY.out, ← hbg, List.getD_eq_getElem?_getD, List.getElem?_eq_getElem hjb]; exact List.getElem_mem hjb))
      obtain ⟨a1, a2⟩ := had
      obtain ⟨b1, b2⟩ := hbd
      have hcell := hrowO.at (j := j) (by rw [hO.out]; omega)
      have hfree := hrowO.open (j := j) (by rw [hO.out]; omega)
      obtain ⟨d, hd⟩ : ∃ d : Nat, d = 10 + a - b - cy := ⟨_, rfl⟩
      have hdi : 10 + (a : Int) - (b : Int) - (cy : Int) = (d : Int) := by omega
      have hd19 : d ≤ 19 := by omega
      have hval2 : Hid (Dc.val ((O.set j (48 + d % 10)).drop j) + Dc.val ((bts y).drop j) = Dc.val ((bts x).drop j) + (1 - d / 10) * 10 ^ (m - j)) := Lib.hid (Dc.sub_step hO.out (by rw [bts_length, hxl]) (by rw [bts_length, hyl]) (by omega) (by rw [hag]; exact a1) (by rw [hbg]; exact b1) (by rw [hbg]; exact b2) (by rw [hag]; exact a2) hcy (by rw [hag, hbg]; omega) hval.out)
      have hdig2 : Hid (((O.set j (48 + d % 10)).drop j).all Dc.dig = true) := Lib.hid (by
        rw [Dc.set_drop (by rw [hO.out]; omega), List.all_cons, hdig.out]; simp [Dc.dig]; omega)
      clear hag hbg hja hjb hz hk0 hd hval hdig
      go_wp2
      go_quiet (fail)
      go_wp2
      go_roundw
      case rel => exact ⟨j, 1 - d / 10, (j : Int) - 1, O.set j (48 + d % 10), by omega, rfl, rfl, by congr 1; omega, by omega, Lib.hid (by rw [List.length_set]; exact hO.out), hval2, hdig2, hrowO.put j (48 + d % 10), (below_drewN hB _).setCell (p := ⟨w.heap.size, j, none⟩) (Nat.le_refl _) _⟩
      case measure => simp [intOf]
end Go.Proofs.YthmmjihldkjhhaaGreatDoor
