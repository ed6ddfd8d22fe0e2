/-
  What 'only' returns: does a string consist of digits?
-/
import Derived.Test.YthmmjihldkjhhaaGreatDoorRstr
namespace Go.Proofs.YthmmjihldkjhhaaGreatDoor
open Go Go.RowKit

set_option maxRecDepth 100000 in
set_option maxHeartbeats 1000000 in
theorem ponly_yes (s : ByteArray) (hs : s.size ≤ 9223372036854775807) (hd : (bts s).all Dc.dig = true) (hne : s.size ≠ 0) (w : World) : Calls Tryz.prog 39 #[.string s] w fun e w' => e = .returned (.bool true) ∧ w = w' := by
  have HD : Hid _ := Lib.hid hd
  have he := isEmpty_no (Nat.pos_of_ne_zero hne)
  clear hd hne
  go_enter Tryz.func39, Tryz.ntmps39
  go_wp2
  go_loop [6] (fun i => ∃ k : Nat, k ≤ s.size ∧ i = .int .i64 k) (fun i => s.size - (intOf i).toNat)
  case atStart => exact ⟨0, Nat.zero_le _, rfl⟩
  case round =>
    obtain ⟨k, hk, rfl⟩ := hrel
    by_cases hlt : k < s.size
    · obtain ⟨c, hc⟩ : ∃ c, (s[k]'hlt).toNat = c := ⟨_, rfl⟩
      have hm := Dc.dig_iff.1 (List.all_eq_true.1 HD.out c (by rw [← hc, ← bts_get s k hlt]; exact List.getElem_mem _))
      have d1 : decide ((c : Int) < 48) = false := decide_eq_false (by omega)
      have d2 : decide (57 < (c : Int)) = false := decide_eq_false (by omega)
      clear hm
      go_wp2
      go_round
      case rel => exact ⟨k + 1, by omega, by simp⟩
      case measure => simp [intOf]; omega
    · go_wp2
      go_ret
      exact ⟨rfl, rfl⟩
set_option maxRecDepth 100000 in
set_option maxHeartbeats 1000000 in
theorem ponly_no (s : ByteArray) (hs : s.size ≤ 9223372036854775807) (hd : (bts s).all Dc.dig = false) (w : World) : Calls Tryz.prog 39 #[.string s] w fun e w' => e = .returned (.bool false) ∧ w = w' := by
  have HD : Hid _ := Lib.hid hd
  clear hd
  go_enter Tryz.func39, Tryz.ntmps39
  go_wp2
  go_loop [6] (fun i => ∃ k : Nat, k ≤ s.size ∧ i = .int .i64 k ∧ Hid (((bts s).take k).all Dc.dig = true)) (fun i => s.size - (intOf i).toNat)
  case atStart => exact ⟨0, Nat.zero_le _, rfl, Lib.hid rfl⟩
  case round =>
    obtain ⟨k, hk, rfl, hall⟩ := hrel
    by_cases hlt : k < s.size
    · obtain ⟨c, hc⟩ : ∃ c, (s[k]'hlt).toNat = c := ⟨_, rfl⟩
      by_cases hm : 48 ≤ c ∧ c ≤ 57
      · have hall2 : Hid (((bts s).take (k + 1)).all Dc.dig = true) := Lib.hid (by rw [bts_take_succ s k hlt, List.all_append, hall.out, hc]; simp [Dc.dig, hm.1, hm.2])
        have d1 : decide ((c : Int) < 48) = false := decide_eq_false (by omega)
        have d2 : decide (57 < (c : Int)) = false := decide_eq_false (by omega)
        clear hm hall
        go_wp2
        go_round
        case rel => exact ⟨k + 1, by omega, by simp, hall2⟩
        case measure => simp [intOf]; omega
      · by_cases h1 : c < 48
        · have d1 : decide ((c : Int) < 48) = true := decide_eq_true (by omega)
          clear hm h1 hall
          go_wp2
          go_ret
          exact ⟨rfl, rfl⟩
        · have d1 : decide ((c : Int) < 48) = false := decide_eq_false (by omega)
          have d2 : decide (57 < (c : Int)) = true := decide_eq_true (by omega)
          clear hm h1 hall
          go_wp2
          go_ret
          exact ⟨rfl, rfl⟩
    · exfalso
      have hke : (bts s).take k = bts s := List.take_of_length_le (by rw [bts_length]; omega)
      have := hall.out
      rw [hke, HD.out] at this; cases this
set_option maxRecDepth 100000 in
theorem ponly_nil (s : ByteArray) (hs : s.size = 0) (w : World) : Calls Tryz.prog 39 #[.string s] w fun e w' => e = .returned (.bool false) ∧ w = w' := by
  have he := isEmpty_yes hs
  go_enter Tryz.func39, Tryz.ntmps39
  go_wp2
  refine wp_loop_rounds 1 ?_
  rw [rounds_succ]
  go_wp2
  go_ret
  exact ⟨rfl, rfl⟩
theorem ponly_any (s : ByteArray) (hs : s.size ≤ 9223372036854775807) (w : World) : Calls Tryz.prog 39 #[.string s] w fun e w' => e = .returned (.bool (onlyB s)) ∧ w = w' := by
  unfold onlyB
  by_cases h0 : s.size = 0
  · rw [decide_eq_false (by omega : ¬ s.size ≠ 0), Bool.and_false]; exact ponly_nil s h0 w
  · rw [decide_eq_true (by omega : s.size ≠ 0), Bool.and_true]
    cases hd : (bts s).all Dc.dig with
    | true => exact ponly_yes s hs hd h0 w
    | false => exact ponly_no s hs hd w

end Go.Proofs.YthmmjihldkjhhaaGreatDoor
