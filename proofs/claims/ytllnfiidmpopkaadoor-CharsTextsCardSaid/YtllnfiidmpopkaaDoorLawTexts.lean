/-
  What CharsTexts and CharsEscapes return: true, where the program's variables hold what its text lays. Condition: those variables.
-/
import Derived.Test.YtllnfiidmpopkaaDoorSums
namespace Go.Proofs.YtllnfiidmpopkaaDoor
open Go Go.RowKit

theorem below2 {a b c : World} (h : Below a.heap.size a b) (k : Below b.heap.size b c) : Below a.heap.size a c := h.trans (k.mono h.size)

set_option maxRecDepth 100000 in
set_option maxHeartbeats 4000000 in
theorem f5_any (s : ByteArray) (v : Value) (zs : List Int) (hs : s.size ≤ maxLen) (w : World) (hG : Good w) (hr : A32 w v zs) (hz : zs.length ≤ maxLen) : Calls Tryd.prog 5 #[.string s, v] w fun e w' => e = .returned (.bool true) ∧ Below w.heap.size w w' := by
  unfold maxLen at hs hz
  have HG : Hid _ := Lib.hid hG
  have HR : Hid _ := Lib.hid hr
  clear hG
  obtain ⟨va, vcap, rfl⟩ := a32_len hr
  clear hr
  by_cases h1 : 5000 < s.size
  · have d1 : decide (5000 < (s.size : Int)) = true := decide_eq_true (by omega)
    clear h1
    go_enter Tryd.func5, Tryd.ntmps5
    go_wp2_with (go_at_call 7; refine (f7_any _ HG.out).mono ?_; rintro e w1 ⟨rfl, hb1⟩)
    go_ret
    go_light
    exact ⟨rfl, hb1⟩
  · have d1 : decide (5000 < (s.size : Int)) = false := decide_eq_false (by omega)
    by_cases h2 : 5000 < zs.length
    · have d2 : decide (5000 < (zs.length : Int)) = true := decide_eq_true (by omega)
      clear h1 h2
      go_enter Tryd.func5, Tryd.ntmps5
      go_wp2_with (go_at_call 7; refine (f7_any _ HG.out).mono ?_; rintro e w1 ⟨rfl, hb1⟩)
      go_ret
      go_light
      exact ⟨rfl, hb1⟩
    · have d2 : decide (5000 < (zs.length : Int)) = false := decide_eq_false (by omega)
      have hs1 : s.size ≤ 1000000 := by omega
      have hz1 : zs.length ≤ 200000 := by omega
      obtain ⟨ys, p, n, hdec⟩ := dec_is s
      have hyl : ys.length ≤ 1000000 := by have := hdec.len; omega
      have HD : Hid _ := Lib.hid hdec
      obtain ⟨bs, m, henc⟩ := enc_is zs
      have HE : Hid _ := Lib.hid henc
      clear h1 h2 hdec henc
      go_enter Tryd.func5, Tryd.ntmps5
      go_wp2_with (first
        | (go_at_call 24; refine (f24_is s hs1 _ HG.out HD.out).mono ?_; rintro e w1 ⟨⟨v1, rfl, hr1⟩, b1⟩; have G1 : Hid _ := Lib.hid (HG.out.next b1); have R1 : Hid _ := Lib.hid hr1; clear hr1)
        | (go_at_call 25; refine (f25_is s hs1 _ HD.out).mono ?_; rintro e w2 ⟨⟨v2, rfl, hr2⟩, b2⟩; have G2 : Hid _ := Lib.hid (G1.out.next b2); have R2 : Hid _ := Lib.hid hr2; clear hr2)
        | (go_at_call 26; refine (f26_is _ zs hz1 _ G2.out (HR.out.below (below2 b1 b2)) HE.out).mono ?_; rintro e w3 ⟨rfl, b3⟩; have G3 : Hid _ := Lib.hid (G2.out.next b3))
        | (go_at_call 27; refine (f27_is _ zs hz1 _ (HR.out.below (below2 (below2 b1 b2) b3)) HE.out).mono ?_; rintro e w4 ⟨rfl, b4⟩; have G4 : Hid _ := Lib.hid (G3.out.next b4))
        | (go_at_call 28; refine (f28_same v1 v2 ys hyl _ (((R1.out.below b2).below b3).below b4) ((R2.out.below b3).below b4)).mono ?_; rintro e w5 ⟨rfl, b5⟩; have G5 : Hid _ := Lib.hid (G4.out.next b5))
        | (go_at_call 7; refine (f7_any _ G5.out).mono ?_; rintro e w6 ⟨rfl, b6⟩))
      go_ret
      go_light
      exact ⟨rfl, below2 (below2 (below2 (below2 (below2 b1 b2) b3) b4) b5) b6⟩

set_option maxRecDepth 100000 in
set_option maxHeartbeats 4000000 in
theorem f4_any (s : ByteArray) (m : Int) (hs : s.size ≤ maxLen) (w : World) (hG : Good w) : Calls Tryd.prog 4 #[.string s, .int .i64 m] w fun e w' => e = .returned (.bool true) ∧ Below w.heap.size w w' := by
  unfold maxLen at hs
  have HG : Hid _ := Lib.hid hG
  clear hG
  by_cases h1 : 5000 < s.size
  · have d1 : decide (5000 < (s.size : Int)) = true := decide_eq_true (by omega)
    clear h1
    go_enter Tryd.func4, Tryd.ntmps4
    go_wp2_with (go_at_call 7; refine (f7_any _ HG.out).mono ?_; rintro e w1 ⟨rfl, hb1⟩)
    go_ret
    go_light
    exact ⟨rfl, hb1⟩
  · have d1 : decide (5000 < (s.size : Int)) = false := decide_eq_false (by omega)
    have hs1 : s.size ≤ 150000 := by omega
    obtain ⟨a, ha⟩ : ∃ a : Bool, (m.tmod 2 == 0) = a := ⟨_, rfl⟩
    obtain ⟨bs, n, hesc⟩ := esc_is s a
    have HE : Hid _ := Lib.hid hesc
    obtain ⟨cs, p, k, hun⟩ := un_is s
    have HU : Hid _ := Lib.hid hun
    obtain ⟨ds, j, hsq⟩ := sq_is s m
    have HS : Hid _ := Lib.hid hsq
    clear h1 hesc hun hsq
    go_enter Tryd.func4, Tryd.ntmps4
    go_wp2_with (first
      | (go_at_call 18; refine (f18_is s a hs1 _ HG.out HE.out).mono ?_; rintro e w1 ⟨rfl, b1⟩; have G1 : Hid _ := Lib.hid (HG.out.next b1))
      | (go_at_call 19; refine (f19_is s a hs1 _ HE.out).mono ?_; rintro e w2 ⟨rfl, b2⟩; have G2 : Hid _ := Lib.hid (G1.out.next b2))
      | (go_at_call 20; refine (f20_is s hs1 _ G2.out HU.out).mono ?_; rintro e w3 ⟨rfl, b3⟩; have G3 : Hid _ := Lib.hid (G2.out.next b3))
      | (go_at_call 21; refine (f21_is s hs1 _ HU.out).mono ?_; rintro e w4 ⟨rfl, b4⟩; have G4 : Hid _ := Lib.hid (G3.out.next b4))
      | (go_at_call 22; refine (f22_is s m hs1 _ G4.out HS.out).mono ?_; rintro e w5 ⟨rfl, b5⟩; have G5 : Hid _ := Lib.hid (G4.out.next b5))
      | (go_at_call 23; refine (f23_is s m hs1 _ HS.out).mono ?_; rintro e w6 ⟨rfl, b6⟩; have G6 : Hid _ := Lib.hid (G5.out.next b6))
      | (go_at_call 7; refine (f7_any _ G6.out).mono ?_; rintro e w7 ⟨rfl, b7⟩))
    go_ret
    go_light
    exact ⟨rfl, below2 (below2 (below2 (below2 (below2 (below2 b1 b2) b3) b4) b5) b6) b7⟩
end Go.Proofs.YtllnfiidmpopkaaDoor
