/-
  What the reference's functions on rows of digits return: digits, bare, zeros, long. Conditions: the sizes.
-/
import Derived.Test.YthmmjihldkjhhaaGreatDoorBase
import Derived.Test.YthmmjihldkjhhaaGreatDoorDbig
namespace Go.Proofs.YthmmjihldkjhhaaGreatDoor
open Go Go.RowKit

theorem str_append (l m : List Nat) : str l ++ str m = str (l ++ m) := by
  apply ByteArray.ext
  simp [str]
theorem ret_str {s t : ByteArray} (h : s = t) : Ending.returned (.string s) = .returned (.string t) := by rw [h]

set_option maxRecDepth 100000 in
set_option maxHeartbeats 1000000 in
theorem rdigits_yes (s : ByteArray) (hs : s.size ≤ 1000000) (hd : (bts s).all Dc.dig = true) (hne : s.size ≠ 0) (w : World) : Calls Tryz.prog 41 #[.string s] w fun e w' => e = .returned (.bool true) ∧ w = w' := by
  have HD : Hid _ := Lib.hid hd
  have he := isEmpty_no (Nat.pos_of_ne_zero hne)
  clear hd hne
  go_enter Tryz.func41, Tryz.ntmps41
  go_wp2
  go_loop [3] (fun i => ∃ k : Nat, k ≤ s.size ∧ i = .int .i64 k) (fun i => s.size - (intOf i).toNat)
  case atStart => exact ⟨0, Nat.zero_le _, rfl⟩
  case round =>
    obtain ⟨k, hk, rfl⟩ := hrel
    by_cases hlt : k < s.size
    · obtain ⟨c, hc⟩ : ∃ c, (s[k]'hlt).toNat = c := ⟨_, rfl⟩
      have hm := Dc.dig_iff.1 (List.all_eq_true.1 HD.out c (by rw [← hc, ← bts_get s k hlt]; exact List.getElem_mem _))
      have d1 : decide ((c : Int) < 48) = false := decide_eq_false (by omega)
      have d2 : decide (57 < (c : Int)) = false := decide_eq_false (by omega)
      clear hm
      go_wp2
      go_round
      case rel => exact ⟨k + 1, by omega, by simp⟩
      case measure => simp [intOf]; omega
    · go_wp2
      go_ret
      exact ⟨rfl, rfl⟩
set_option maxRecDepth 100000 in
set_option maxHeartbeats 1000000 in
theorem rdigits_no (s : ByteArray) (hs : s.size ≤ 1000000) (hd : (bts s).all Dc.dig = false) (w : World) : Calls Tryz.prog 41 #[.string s] w fun e w' => e = .returned (.bool false) ∧ w = w' := by
  have HD : Hid _ := Lib.hid hd
  clear hd
  go_enter Tryz.func41, Tryz.ntmps41
  go_wp2
  go_loop [3] (fun i => ∃ k : Nat, k ≤ s.size ∧ i = .int .i64 k ∧ Hid (((bts s).take k).all Dc.dig = true)) (fun i => s.size - (intOf i).toNat)
  case atStart => exact ⟨0, Nat.zero_le _, rfl, Lib.hid rfl⟩
  case round =>
    obtain ⟨k, hk, rfl, hall⟩ := hrel
    by_cases hlt : k < s.size
    · obtain ⟨c, hc⟩ : ∃ c, (s[k]'hlt).toNat = c := ⟨_, rfl⟩
      by_cases hm : 48 ≤ c ∧ c ≤ 57
      · have hall2 : Hid (((bts s).take (k + 1)).all Dc.dig = true) := Lib.hid (by rw [bts_take_succ s k hlt, List.all_append, hall.out, hc]; simp [Dc.dig, hm.1, hm.2])
        have d1 : decide ((c : Int) < 48) = false := decide_eq_false (by omega)
        have d2 : decide (57 < (c : Int)) = false := decide_eq_false (by omega)
        clear hm hall
        go_wp2
        go_round
        case rel => exact ⟨k + 1, by omega, by simp, hall2⟩
        case measure => simp [intOf]; omega
      · by_cases h1 : c < 48
        · have d1 : decide ((c : Int) < 48) = true := decide_eq_true (by omega)
          clear hm h1 hall
          go_wp2
          go_ret
          exact ⟨rfl, rfl⟩
        · have d1 : decide ((c : Int) < 48) = false := decide_eq_false (by omega)
          have d2 : decide (57 < (c : Int)) = true := decide_eq_true (by omega)
          clear hm h1 hall
          go_wp2
          go_ret
          exact ⟨rfl, rfl⟩
    · exfalso
      have hke : (bts s).take k = bts s := List.take_of_length_le (by rw [bts_length]; omega)
      have := hall.out
      rw [hke, HD.out] at this; cases this
set_option maxRecDepth 100000 in
theorem rdigits_nil (s : ByteArray) (hs : s.size = 0) (w : World) : Calls Tryz.prog 41 #[.string s] w fun e w' => e = .returned (.bool false) ∧ w = w' := by
  have he := isEmpty_yes hs
  go_enter Tryz.func41, Tryz.ntmps41
  go_wp2
  refine wp_loop_rounds 1 ?_
  rw [rounds_succ]
  go_wp2
  go_ret
  exact ⟨rfl, rfl⟩
/-- Does a string consist of digits? -/
def onlyB (s : ByteArray) : Bool := (bts s).all Dc.dig && decide (s.size ≠ 0)
theorem rdigits_any (s : ByteArray) (hs : s.size ≤ 1000000) (w : World) : Calls Tryz.prog 41 #[.string s] w fun e w' => e = .returned (.bool (onlyB s)) ∧ w = w' := by
  unfold onlyB
  by_cases h0 : s.size = 0
  · rw [decide_eq_false (by omega : ¬ s.size ≠ 0), Bool.and_false]; exact rdigits_nil s h0 w
  · rw [decide_eq_true (by omega : s.size ≠ 0), Bool.and_true]
    cases hd : (bts s).all Dc.dig with
    | true => exact rdigits_yes s hs hd h0 w
    | false => exact rdigits_no s hs hd w

set_option maxRecDepth 100000 in
set_option maxHeartbeats 1000000 in
theorem rbare_any (s : ByteArray) (hs : s.size ≤ 1000000) (w : World) : Calls Tryz.prog 68 #[.string s] w fun e w' => (∃ t : ByteArray, e = .returned (.string t) ∧ t = str (Dc.bare (bts s))) ∧ w = w' := by
  go_enter Tryz.func68, Tryz.ntmps68
  go_wp2
  go_loop [0] (fun v => ∃ t : ByteArray, v = .string t ∧ t.size ≤ 1000000 ∧ Hid (Dc.bare (bts t) = Dc.bare (bts s))) (fun v => match v with | .string t => t.size | _ => 0)
  case atStart => exact ⟨s, rfl, hs, Lib.hid rfl⟩
  case round =>
    obtain ⟨t, rfl, ht, hb⟩ := hrel
    by_cases h1 : 1 < t.size
    · obtain ⟨c, hc⟩ : ∃ c, (t[0]'(by omega)).toNat = c := ⟨_, rfl⟩
      have hhd : (bts t).head? = some c := by
        rw [List.head?_eq_getElem?, List.getElem?_eq_getElem (by rw [bts_length]; omega), bts_get t 0 (by omega), hc]
      obtain ⟨r, hr⟩ : ∃ r, t.extract 1 t.size = r := ⟨_, rfl⟩
      have hbr : bts r = (bts t).tail := by rw [← hr]; exact bts_tail t
      by_cases h48 : c = 48
      · subst h48
        have hb2 : Hid (Dc.bare (bts r) = Dc.bare (bts s)) := Lib.hid (by
          rw [← hb.out, hbr]; exact Dc.bare_step (by rw [bts_length]; exact h1) hhd)
        have hrl : r.size = t.size - 1 := by rw [← bts_length, hbr, List.length_tail, bts_length]
        have HRL : Hid _ := Lib.hid hrl
        clear hb hbr hhd hrl
        go_wp2
        go_round
        case rel => exact ⟨r, rfl, by have := HRL.out; omega, hb2⟩
        case measure => have := HRL.out; simp; omega
      · have d : ((c : Int) == 48) = false := beq_no h48
        have hfin : Hid (t = str (Dc.bare (bts s))) := Lib.hid (by
          rw [← hb.out, Dc.bare_stop (by rw [hhd]; simpa using h48), str_bts])
        clear hb hbr hhd h48
        go_wp2
        go_ret
        exact ⟨ret_str hfin.out, rfl⟩
    · have hfin : Hid (t = str (Dc.bare (bts s))) := Lib.hid (by
        rw [← hb.out, Dc.bare_short (by rw [bts_length]; exact h1), str_bts])
      clear hb
      go_wp2
      go_ret
      exact ⟨ret_str hfin.out, rfl⟩

set_option maxRecDepth 100000 in
set_option maxHeartbeats 1000000 in
theorem rzeros_any (z : Int) (n : Nat) (hz : z = n) (hn : n ≤ 1000000) (w : World) : Calls Tryz.prog 45 #[.int .i64 z] w fun e w' => (∃ t : ByteArray, e = .returned (.string t) ∧ t = str (List.replicate n 48)) ∧ w = w' := by
  subst hz
  go_enter Tryz.func45, Tryz.ntmps45
  go_wp2
  go_loop [3, 4] (fun v i => ∃ (k : Nat) (t : ByteArray), k ≤ n ∧ i = .int .i64 k ∧ v = .string t ∧ Hid (t = str (List.replicate k 48))) (fun _ i => n - (intOf i).toNat)
  case atStart => exact ⟨0, ⟨#[]⟩, Nat.zero_le _, rfl, rfl, Lib.hid rfl⟩
  case round =>
    obtain ⟨k, t, hk, rfl, rfl, ht⟩ := hrel
    by_cases hlt : k < n
    · have hts : t.size = k := by rw [ht.out, str_size]; simp
      have HTS : Hid _ := Lib.hid hts
      have htl : t.size ≤ 1000000 := by omega
      have ht2 : Hid (t ++ ⟨#[48]⟩ = str (List.replicate (k + 1) 48)) := Lib.hid (by
        rw [ht.out, List.replicate_succ', ← str_append]; rfl)
      clear hts ht
      go_wp2
      go_round
      case rel => exact ⟨k + 1, _, by omega, by simp, rfl, ht2⟩
      case measure => simp [intOf]; omega
    · have hke : k = n := by omega
      subst hke
      go_wp2
      go_ret
      exact ⟨ret_str ht.out, rfl⟩
theorem str_add (s t : ByteArray) : bts (s ++ t) = bts s ++ bts t := by simp [bts]
set_option maxRecDepth 100000 in
set_option maxHeartbeats 1000000 in
theorem rlong_any (s : ByteArray) (z : Int) (n : Nat) (hz : z = n) (hn : n ≤ 1000000) (hs : s.size ≤ n) (w : World) : Calls Tryz.prog 84 #[.string s, .int .i64 z] w fun e w' => (∃ t : ByteArray, e = .returned (.string t) ∧ t = str (List.replicate (n - s.size) 48 ++ bts s)) ∧ w = w' := by
  subst hz
  go_enter Tryz.func84, Tryz.ntmps84
  go_wp2_with (go_at_call 45; refine (rzeros_any _ (n - s.size) (by omega) (by omega) _).mono ?_; rintro e w1 ⟨⟨t, rfl, ht⟩, rfl⟩; have HT : Hid _ := Lib.hid ht; have htl : t.size ≤ 1000000 := (by rw [ht, str_size]; simp; omega); clear ht)
  go_ret
  exact ⟨⟨_, rfl, by rw [HT.out, ← str_append, str_bts]⟩, rfl⟩
end Go.Proofs.YthmmjihldkjhhaaGreatDoor
