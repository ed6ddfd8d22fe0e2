/-
  What CharsKinds returns: true, where the program's variables hold what its text lays. Condition: those variables.
-/
import Derived.Test.YtllnfiidmpopkaaDoorShown
namespace Go.Proofs.YtllnfiidmpopkaaDoor
open Go Go.RowKit

set_option maxRecDepth 100000 in
set_option maxHeartbeats 4000000 in
theorem f3_any (c : Int) (s : ByteArray) (hs : s.size ≤ maxLen) (w : World) (hG : Good w) : Calls Tryd.prog 3 #[.int .i32 c, .string s] w fun e w' => e = .returned (.bool true) ∧ Below w.heap.size w w' := by
  unfold maxLen at hs
  have HG : Hid _ := Lib.hid hG
  clear hG
  by_cases h2 : 2000 < s.size
  · have d1 : decide (2000 < (s.size : Int)) = true := decide_eq_true (by omega)
    clear h2
    go_enter Tryd.func3, Tryd.ntmps3
    go_wp2_with (go_at_call 7; refine (f7_any _ HG.out).mono ?_; rintro e w1 ⟨rfl, hb1⟩)
    go_ret
    go_light
    exact ⟨rfl, hb1⟩
  · have hs2 : s.size ≤ 1000000 := by omega
    have d1 : decide (2000 < (s.size : Int)) = false := decide_eq_false (by omega)
    clear h2
    obtain ⟨b1, hb1⟩ : ∃ b, Ch.valid c = b := ⟨_, rfl⟩
    obtain ⟨b2, hb2⟩ : ∃ b, Ch.blank c = b := ⟨_, rfl⟩
    obtain ⟨b3, hb3⟩ : ∃ b, Ch.first c = b := ⟨_, rfl⟩
    obtain ⟨b4, hb4⟩ : ∃ b, Ch.inner c = b := ⟨_, rfl⟩
    obtain ⟨b5, hb5⟩ : ∃ b, localB s = b := ⟨_, rfl⟩
    have H1 : Hid _ := Lib.hid hb1
    have H2 : Hid _ := Lib.hid hb2
    have H3 : Hid _ := Lib.hid hb3
    have H4 : Hid _ := Lib.hid hb4
    have H5 : Hid _ := Lib.hid hb5
    have H6 : Hid (localR s = b5) := Lib.hid (by rw [localR_eq, hb5])
    clear hb1 hb2 hb3 hb4 hb5
    go_enter Tryd.func3, Tryd.ntmps3
    go_wp2_with (first
      | (go_at_call 8; refine (f8_any c _ HG.out.rng).mono ?_; rintro e w1 ⟨rfl, c1⟩; have G1 : Hid _ := Lib.hid (HG.out.next c1); rw [H1.out])
      | (go_at_call 9; refine (f9_any c _).mono ?_; rintro e w2 ⟨rfl, rfl⟩; rw [H1.out])
      | (go_at_call 10; refine (f10_any c _).mono ?_; rintro e w2 ⟨rfl, rfl⟩; rw [H2.out])
      | (go_at_call 11; refine (f11_any c _).mono ?_; rintro e w2 ⟨rfl, rfl⟩; rw [H2.out])
      | (go_at_call 12; refine (f12_any c _ G1.out.rng).mono ?_; rintro e w3 ⟨rfl, c3⟩; have G3 : Hid _ := Lib.hid (G1.out.next c3); rw [H3.out])
      | (go_at_call 13; refine (f13_any c _).mono ?_; rintro e w2 ⟨rfl, rfl⟩; rw [H3.out])
      | (go_at_call 14; refine (f14_any c _ G3.out.rng).mono ?_; rintro e w4 ⟨rfl, c4⟩; have G4 : Hid _ := Lib.hid (G3.out.next c4); rw [H4.out])
      | (go_at_call 15; refine (f15_any c _).mono ?_; rintro e w2 ⟨rfl, rfl⟩; rw [H4.out])
      | (go_at_call 16; refine (f16_any s hs2 _ G4.out.rng).mono ?_; rintro e w5 ⟨rfl, c5⟩; have G5 : Hid _ := Lib.hid (G4.out.next c5); rw [H5.out])
      | (go_at_call 17; refine (f17_any s hs2 _).mono ?_; rintro e w6 ⟨rfl, c6⟩; have G6 : Hid _ := Lib.hid (G5.out.next c6); rw [H6.out])
      | (go_at_call 7; refine (f7_any _ G6.out).mono ?_; rintro e w7 ⟨rfl, c7⟩))
    go_ret
    go_light
    exact ⟨rfl, c1.trans ((c3.trans ((c4.trans ((c5.trans ((c6.trans (c7.mono c6.size)).mono c5.size)).mono c4.size)).mono c3.size)).mono c1.size)⟩
end Go.Proofs.YtllnfiidmpopkaaDoor
