/-
  What 'first' of the program returns: the character at the beginning of a string that is not empty, and how many bytes it has; 0 and 0 where there is none. Condition: the program's table of ranges.
-/
import Derived.Test.YtllnfiidmpopkaaDoorNext
import Derived.Deep.DeepMust
namespace Go.Proofs.YtllnfiidmpopkaaDoor
open Go Go.RowKit

theorem below_of_grown {w w' : World} (h : w.grownBy w' none) : Below w.heap.size w w' :=
  (Below.refl _ w).grown h (Nat.le_refl _) (fun _ e => by cases e)
theorem f45_nil (c : Nat) (hc : c ≤ 1114111) (w : World) :
    Calls Tryd.prog 45 #[.slice none 0 0, .int .i32 c] w fun e w' => (∃ g cap, e = .returned (.slice (some ⟨g, 0, none⟩) (Ch.lenN c) cap) ∧ w'.ownsRow w.heap.size 5 1 (.slice (some ⟨g, 0, none⟩) (Ch.lenN c) cap) (Ch.lenN c) (u8s (Ch.encN c))) ∧ Below w.heap.size w w' := by
  refine (f45_any c hc (.slice none 0 0) [] w.heap.size w (Nat.le_refl _) ⟨rfl, .inl ⟨rfl, rfl⟩⟩ (by simp)).mono ?_
  rintro e w' ⟨v', rfl, hown, hg⟩
  simp only [List.length_nil, Nat.zero_add, List.nil_append] at hown
  refine ⟨?_, below_of_grown hg⟩
  have hp := Ch.lenN_pos c
  obtain ⟨hl, ⟨rfl, h0⟩ | ⟨g, cap, cur, rfl, h⟩⟩ := hown
  · omega
  · exact ⟨g, cap, rfl, hl, .inr ⟨g, cap, cur, rfl, h⟩⟩

theorem Rng.drewN {w : World} (h : Rng w) (n : Nat) : Rng (w.drewN n) := by
  obtain ⟨T, fr, h⟩ := h
  exact ⟨T, fr, h⟩
theorem below_of_drewN {w w1 : World} {n : Nat} (h : Below (w.drewN n).heap.size (w.drewN n) w1) : Below w.heap.size w w1 := (below_drewN (Below.refl _ w) n).trans h
theorem u8_and192 (b : Nat) (h : b < 256) : bits .and .u8 (b : Int) 192 = (b : Int) / 64 * 64 := by
  have e : bits .and .u8 (b : Int) ((192 : Nat) : Int) = ((b &&& 192 : Nat) : Int) := u8_and_nat b 192 h (by decide)
  have e2 : b &&& 192 = b / 64 * 64 := by
    have : ∀ b : Fin 256, b.val &&& 192 = b.val / 64 * 64 := by decide +kernel
    exact this ⟨b, h⟩
  rw [show (192 : Int) = ((192 : Nat) : Int) from rfl, e, e2]; omega
theorem i32_and31 (x : Int) (h0 : 0 ≤ x) (h1 : x < 2147483648) : bits .and .i32 x 31 = x % 32 := bits_mask .i32 31 (by decide) wraps_i32 5 (by decide) x h0 h1
theorem i32_and15 (x : Int) (h0 : 0 ≤ x) (h1 : x < 2147483648) : bits .and .i32 x 15 = x % 16 := bits_mask .i32 31 (by decide) wraps_i32 4 (by decide) x h0 h1
theorem i32_and7 (x : Int) (h0 : 0 ≤ x) (h1 : x < 2147483648) : bits .and .i32 x 7 = x % 8 := bits_mask .i32 31 (by decide) wraps_i32 3 (by decide) x h0 h1

set_option maxRecDepth 100000 in
set_option maxHeartbeats 400000 in
theorem f47_1_yes (s : ByteArray) (w : World) (hG : Rng w) (hs : s.size ≤ maxLen) (c : Nat) (hr : Ch.raw (bts s) = some (c, 1)) (hv : Ch.valid c = true) (hk : Ch.lenN c = 1) :
    Calls Tryd.prog 47 #[.string s] w fun e w' => e = .returned (.tuple #[.int .i32 c, .int .i64 1]) ∧ Below w.heap.size w w' := by
  have hcm := valid_nat hv
  obtain ⟨hlen, h1, hc⟩ := Ch.raw_1 hr
  rw [bts_length] at hlen
  have h1' : gb s 0 < 128 := h1
  have hc' : c = gb s 0 := hc
  have hl0 : 0 < s.size := by omega
  have e0 := byte_eq hl0
  have u0 : (s[0]'hl0).toNat < 128 := by omega
  obtain rfl : c = (s[0]'hl0).toNat := by omega
  clear h1 h1' hc e0 hc' hlen
  have Hv : Hid _ := Lib.hid hv
  have HK : ((Ch.lenN (s[0]'hl0).toNat : Int) != 1) = false := by rw [hk]; rfl
  clear hk
  clear hv hr
  unfold maxLen at hs
  go_enter Tryd.func47, Tryd.ntmps47
  go_wp2
  go_quiet (fail)
  go_wp2
  refine wp_loop_rounds 1 ?_
  iterate 1 (rw [rounds_succ]; go_wp2_with (first | (go_at_call 8; refine (f8_any _ _ (hG.drewN _)).mono ?_; rintro e w1 ⟨rfl, hb⟩; rw [Hv.out]) | (go_at_call 45; refine (f45_nil _ hcm _).mono ?_; rintro e w2 ⟨⟨g, cap, rfl, hown⟩, hb2⟩)))
  go_ret2
  go_light
  exact ⟨rfl, (below_of_drewN hb).trans (hb2.mono (below_of_drewN hb).size)⟩

set_option maxRecDepth 100000 in
set_option maxHeartbeats 400000 in
theorem f47_1_not (s : ByteArray) (w : World) (hG : Rng w) (hs : s.size ≤ maxLen) (c : Nat) (hr : Ch.raw (bts s) = some (c, 1)) (hv : Ch.valid c = false) :
    Calls Tryd.prog 47 #[.string s] w fun e w' => e = .returned (.tuple #[.int .i32 0, .int .i64 0]) ∧ Below w.heap.size w w' := by
  obtain ⟨hlen, h1, hc⟩ := Ch.raw_1 hr
  rw [bts_length] at hlen
  have h1' : gb s 0 < 128 := h1
  have hc' : c = gb s 0 := hc
  have hl0 : 0 < s.size := by omega
  have e0 := byte_eq hl0
  have u0 : (s[0]'hl0).toNat < 128 := by omega
  obtain rfl : c = (s[0]'hl0).toNat := by omega
  clear h1 h1' hc e0 hc' hlen
  have Hv : Hid _ := Lib.hid hv
  clear hv hr
  unfold maxLen at hs
  go_enter Tryd.func47, Tryd.ntmps47
  go_wp2
  go_quiet (fail)
  go_wp2
  refine wp_loop_rounds 1 ?_
  iterate 1 (rw [rounds_succ]; go_wp2_with (first | (go_at_call 8; refine (f8_any _ _ (hG.drewN _)).mono ?_; rintro e w1 ⟨rfl, hb⟩; rw [Hv.out])))
  go_ret2
  go_light
  exact ⟨rfl, below_of_drewN hb⟩

set_option maxRecDepth 100000 in
set_option maxHeartbeats 400000 in
theorem f47_2_yes (s : ByteArray) (w : World) (hG : Rng w) (hs : s.size ≤ maxLen) (c : Nat) (hr : Ch.raw (bts s) = some (c, 2)) (hv : Ch.valid c = true) (hk : Ch.lenN c = 2) :
    Calls Tryd.prog 47 #[.string s] w fun e w' => e = .returned (.tuple #[.int .i32 c, .int .i64 2]) ∧ Below w.heap.size w w' := by
  have hcm := valid_nat hv
  obtain ⟨hlen, h1, h2, ht', hc⟩ := Ch.raw_2 hr
  rw [bts_length] at hlen
  have h1' : 192 ≤ gb s 0 := h1
  have h2' : gb s 0 < 224 := h2
  have ht : 128 ≤ gb s 1 ∧ gb s 1 < 192 := ht'
  have hc' : c = (gb s 0 - 192) * 64 + (gb s 1 - 128) := hc
  have hl0 : 0 < s.size := by omega
  have e0 := byte_eq hl0
  have t0 : 192 ≤ (s[0]'hl0).toNat := by omega
  have u0 : (s[0]'hl0).toNat < 224 := by omega
  have m0 := i32_and31 ((s[0]'hl0).toNat : Int) (by omega) (by omega)
  have hl1 : 1 < s.size := by omega
  have b1 : (s[1]'hl1).toNat < 256 := (s[1]'hl1).toNat_lt
  have m1 := u8_and63 ((s[1]'hl1).toNat : Int) (by omega) (by omega)
  have a1 : bits .and .u8 ((s[1]'hl1).toNat : Int) 192 = 128 := by rw [u8_and192 _ b1]; have := byte_eq hl1; omega
  have o1 := i32_or6 ((((s[0]'hl0).toNat : Int) % (32 : Int)) * 64) (((s[1]'hl1).toNat : Int) % 64) (by omega) (by omega) (by omega) (by omega) (by omega)
  have hc'' : ((((s[0]'hl0).toNat : Int) % (32 : Int)) * (64 : Int) + ((s[1]'hl1).toNat : Int) % (64 : Int) : Int) = (c : Int) := by have := byte_eq hl1; omega
  have C0 : Hid _ := Lib.hid hc''
  clear e0 hc hc' hc'' h1 h2 ht' h1' h2' ht
  have Hv : Hid _ := Lib.hid hv
  have HK : ((Ch.lenN c : Int) != 2) = false := by rw [hk]; rfl
  clear hk
  clear hv hr
  unfold maxLen at hs
  go_enter Tryd.func47, Tryd.ntmps47
  go_wp2
  go_quiet (fail)
  go_wp2
  refine wp_loop_rounds 2 ?_
  iterate 2 (rw [rounds_succ]; go_wp2_with (first | (go_at_call 8; refine (f8_any _ _ (hG.drewN _)).mono ?_; rintro e w1 ⟨rfl, hb⟩; rw [C0.out, Hv.out]) | (go_at_call 45; refine (f45_nil _ hcm _).mono ?_; rintro e w2 ⟨⟨g, cap, rfl, hown⟩, hb2⟩)))
  go_ret2
  go_light
  exact ⟨rfl, (below_of_drewN hb).trans (hb2.mono (below_of_drewN hb).size)⟩

set_option maxRecDepth 100000 in
set_option maxHeartbeats 400000 in
theorem f47_2_long (s : ByteArray) (w : World) (hG : Rng w) (hs : s.size ≤ maxLen) (c : Nat) (hr : Ch.raw (bts s) = some (c, 2)) (hv : Ch.valid c = true) (hk : Ch.lenN c ≠ 2) :
    Calls Tryd.prog 47 #[.string s] w fun e w' => e = .returned (.tuple #[.int .i32 0, .int .i64 0]) ∧ Below w.heap.size w w' := by
  have hcm := valid_nat hv
  obtain ⟨hlen, h1, h2, ht', hc⟩ := Ch.raw_2 hr
  rw [bts_length] at hlen
  have h1' : 192 ≤ gb s 0 := h1
  have h2' : gb s 0 < 224 := h2
  have ht : 128 ≤ gb s 1 ∧ gb s 1 < 192 := ht'
  have hc' : c = (gb s 0 - 192) * 64 + (gb s 1 - 128) := hc
  have hl0 : 0 < s.size := by omega
  have e0 := byte_eq hl0
  have t0 : 192 ≤ (s[0]'hl0).toNat := by omega
  have u0 : (s[0]'hl0).toNat < 224 := by omega
  have m0 := i32_and31 ((s[0]'hl0).toNat : Int) (by omega) (by omega)
  have hl1 : 1 < s.size := by omega
  have b1 : (s[1]'hl1).toNat < 256 := (s[1]'hl1).toNat_lt
  have m1 := u8_and63 ((s[1]'hl1).toNat : Int) (by omega) (by omega)
  have a1 : bits .and .u8 ((s[1]'hl1).toNat : Int) 192 = 128 := by rw [u8_and192 _ b1]; have := byte_eq hl1; omega
  have o1 := i32_or6 ((((s[0]'hl0).toNat : Int) % (32 : Int)) * 64) (((s[1]'hl1).toNat : Int) % 64) (by omega) (by omega) (by omega) (by omega) (by omega)
  have hc'' : ((((s[0]'hl0).toNat : Int) % (32 : Int)) * (64 : Int) + ((s[1]'hl1).toNat : Int) % (64 : Int) : Int) = (c : Int) := by have := byte_eq hl1; omega
  have C0 : Hid _ := Lib.hid hc''
  clear e0 hc hc' hc'' h1 h2 ht' h1' h2' ht
  have Hv : Hid _ := Lib.hid hv
  have HK : ((Ch.lenN c : Int) != 2) = true := by rw [bne_iff_ne]; omega
  clear hk
  clear hv hr
  unfold maxLen at hs
  go_enter Tryd.func47, Tryd.ntmps47
  go_wp2
  go_quiet (fail)
  go_wp2
  refine wp_loop_rounds 2 ?_
  iterate 2 (rw [rounds_succ]; go_wp2_with (first | (go_at_call 8; refine (f8_any _ _ (hG.drewN _)).mono ?_; rintro e w1 ⟨rfl, hb⟩; rw [C0.out, Hv.out]) | (go_at_call 45; refine (f45_nil _ hcm _).mono ?_; rintro e w2 ⟨⟨g, cap, rfl, hown⟩, hb2⟩)))
  go_ret2
  go_light
  exact ⟨rfl, (below_of_drewN hb).trans (hb2.mono (below_of_drewN hb).size)⟩

set_option maxRecDepth 100000 in
set_option maxHeartbeats 400000 in
theorem f47_2_not (s : ByteArray) (w : World) (hG : Rng w) (hs : s.size ≤ maxLen) (c : Nat) (hr : Ch.raw (bts s) = some (c, 2)) (hv : Ch.valid c = false) :
    Calls Tryd.prog 47 #[.string s] w fun e w' => e = .returned (.tuple #[.int .i32 0, .int .i64 0]) ∧ Below w.heap.size w w' := by
  obtain ⟨hlen, h1, h2, ht', hc⟩ := Ch.raw_2 hr
  rw [bts_length] at hlen
  have h1' : 192 ≤ gb s 0 := h1
  have h2' : gb s 0 < 224 := h2
  have ht : 128 ≤ gb s 1 ∧ gb s 1 < 192 := ht'
  have hc' : c = (gb s 0 - 192) * 64 + (gb s 1 - 128) := hc
  have hl0 : 0 < s.size := by omega
  have e0 := byte_eq hl0
  have t0 : 192 ≤ (s[0]'hl0).toNat := by omega
  have u0 : (s[0]'hl0).toNat < 224 := by omega
  have m0 := i32_and31 ((s[0]'hl0).toNat : Int) (by omega) (by omega)
  have hl1 : 1 < s.size := by omega
  have b1 : (s[1]'hl1).toNat < 256 := (s[1]'hl1).toNat_lt
  have m1 := u8_and63 ((s[1]'hl1).toNat : Int) (by omega) (by omega)
  have a1 : bits .and .u8 ((s[1]'hl1).toNat : Int) 192 = 128 := by rw [u8_and192 _ b1]; have := byte_eq hl1; omega
  have o1 := i32_or6 ((((s[0]'hl0).toNat : Int) % (32 : Int)) * 64) (((s[1]'hl1).toNat : Int) % 64) (by omega) (by omega) (by omega) (by omega) (by omega)
  have hc'' : ((((s[0]'hl0).toNat : Int) % (32 : Int)) * (64 : Int) + ((s[1]'hl1).toNat : Int) % (64 : Int) : Int) = (c : Int) := by have := byte_eq hl1; omega
  have C0 : Hid _ := Lib.hid hc''
  clear e0 hc hc' hc'' h1 h2 ht' h1' h2' ht
  have Hv : Hid _ := Lib.hid hv
  clear hv hr
  unfold maxLen at hs
  go_enter Tryd.func47, Tryd.ntmps47
  go_wp2
  go_quiet (fail)
  go_wp2
  refine wp_loop_rounds 2 ?_
  iterate 2 (rw [rounds_succ]; go_wp2_with (first | (go_at_call 8; refine (f8_any _ _ (hG.drewN _)).mono ?_; rintro e w1 ⟨rfl, hb⟩; rw [C0.out, Hv.out])))
  go_ret2
  go_light
  exact ⟨rfl, below_of_drewN hb⟩

set_option maxRecDepth 100000 in
set_option maxHeartbeats 400000 in
theorem f47_3_yes (s : ByteArray) (w : World) (hG : Rng w) (hs : s.size ≤ maxLen) (c : Nat) (hr : Ch.raw (bts s) = some (c, 3)) (hv : Ch.valid c = true) (hk : Ch.lenN c = 3) :
    Calls Tryd.prog 47 #[.string s] w fun e w' => e = .returned (.tuple #[.int .i32 c, .int .i64 3]) ∧ Below w.heap.size w w' := by
  have hcm := valid_nat hv
  obtain ⟨hlen, h1, h2, ht', hc⟩ := Ch.raw_3 hr
  rw [bts_length] at hlen
  have h1' : 224 ≤ gb s 0 := h1
  have h2' : gb s 0 < 240 := h2
  have ht : 128 ≤ gb s 1 ∧ gb s 1 < 192 ∧ 128 ≤ gb s 2 ∧ gb s 2 < 192 := ht'
  have hc' : c = ((gb s 0 - 224) * 64 + (gb s 1 - 128)) * 64 + (gb s 2 - 128) := hc
  have hl0 : 0 < s.size := by omega
  have e0 := byte_eq hl0
  have t0 : 224 ≤ (s[0]'hl0).toNat := by omega
  have u0 : (s[0]'hl0).toNat < 240 := by omega
  have m0 := i32_and15 ((s[0]'hl0).toNat : Int) (by omega) (by omega)
  have hl1 : 1 < s.size := by omega
  have b1 : (s[1]'hl1).toNat < 256 := (s[1]'hl1).toNat_lt
  have m1 := u8_and63 ((s[1]'hl1).toNat : Int) (by omega) (by omega)
  have a1 : bits .and .u8 ((s[1]'hl1).toNat : Int) 192 = 128 := by rw [u8_and192 _ b1]; have := byte_eq hl1; omega
  have o1 := i32_or6 ((((s[0]'hl0).toNat : Int) % (16 : Int)) * 64) (((s[1]'hl1).toNat : Int) % 64) (by omega) (by omega) (by omega) (by omega) (by omega)
  have hl2 : 2 < s.size := by omega
  have b2 : (s[2]'hl2).toNat < 256 := (s[2]'hl2).toNat_lt
  have m2 := u8_and63 ((s[2]'hl2).toNat : Int) (by omega) (by omega)
  have a2 : bits .and .u8 ((s[2]'hl2).toNat : Int) 192 = 128 := by rw [u8_and192 _ b2]; have := byte_eq hl2; omega
  have o2 := i32_or6 (((((s[0]'hl0).toNat : Int) % (16 : Int)) * (64 : Int) + ((s[1]'hl1).toNat : Int) % (64 : Int)) * 64) (((s[2]'hl2).toNat : Int) % 64) (by omega) (by omega) (by omega) (by omega) (by omega)
  have hc'' : (((((s[0]'hl0).toNat : Int) % (16 : Int)) * (64 : Int) + ((s[1]'hl1).toNat : Int) % (64 : Int)) * (64 : Int) + ((s[2]'hl2).toNat : Int) % (64 : Int) : Int) = (c : Int) := by have := byte_eq hl1; have := byte_eq hl2; omega
  have C0 : Hid _ := Lib.hid hc''
  clear e0 hc hc' hc'' h1 h2 ht' h1' h2' ht
  have Hv : Hid _ := Lib.hid hv
  have HK : ((Ch.lenN c : Int) != 3) = false := by rw [hk]; rfl
  clear hk
  clear hv hr
  unfold maxLen at hs
  go_enter Tryd.func47, Tryd.ntmps47
  go_wp2
  go_quiet (fail)
  go_wp2
  refine wp_loop_rounds 3 ?_
  iterate 3 (rw [rounds_succ]; go_wp2_with (first | (go_at_call 8; refine (f8_any _ _ (hG.drewN _)).mono ?_; rintro e w1 ⟨rfl, hb⟩; rw [C0.out, Hv.out]) | (go_at_call 45; refine (f45_nil _ hcm _).mono ?_; rintro e w2 ⟨⟨g, cap, rfl, hown⟩, hb2⟩)))
  go_ret2
  go_light
  exact ⟨rfl, (below_of_drewN hb).trans (hb2.mono (below_of_drewN hb).size)⟩

set_option maxRecDepth 100000 in
set_option maxHeartbeats 400000 in
theorem f47_3_long (s : ByteArray) (w : World) (hG : Rng w) (hs : s.size ≤ maxLen) (c : Nat) (hr : Ch.raw (bts s) = some (c, 3)) (hv : Ch.valid c = true) (hk : Ch.lenN c ≠ 3) :
    Calls Tryd.prog 47 #[.string s] w fun e w' => e = .returned (.tuple #[.int .i32 0, .int .i64 0]) ∧ Below w.heap.size w w' := by
  have hcm := valid_nat hv
  obtain ⟨hlen, h1, h2, ht', hc⟩ := Ch.raw_3 hr
  rw [bts_length] at hlen
  have h1' : 224 ≤ gb s 0 := h1
  have h2' : gb s 0 < 240 := h2
  have ht : 128 ≤ gb s 1 ∧ gb s 1 < 192 ∧ 128 ≤ gb s 2 ∧ gb s 2 < 192 := ht'
  have hc' : c = ((gb s 0 - 224) * 64 + (gb s 1 - 128)) * 64 + (gb s 2 - 128) := hc
  have hl0 : 0 < s.size := by omega
  have e0 := byte_eq hl0
  have t0 : 224 ≤ (s[0]'hl0).toNat := by omega
  have u0 : (s[0]'hl0).toNat < 240 := by omega
  have m0 := i32_and15 ((s[0]'hl0).toNat : Int) (by omega) (by omega)
  have hl1 : 1 < s.size := by omega
  have b1 : (s[1]'hl1).toNat < 256 := (s[1]'hl1).toNat_lt
  have m1 := u8_and63 ((s[1]'hl1).toNat : Int) (by omega) (by omega)
  have a1 : bits .and .u8 ((s[1]'hl1).toNat : Int) 192 = 128 := by rw [u8_and192 _ b1]; have := byte_eq hl1; omega
  have o1 := i32_or6 ((((s[0]'hl0).toNat : Int) % (16 : Int)) * 64) (((s[1]'hl1).toNat : Int) % 64) (by omega) (by omega) (by omega) (by omega) (by omega)
  have hl2 : 2 < s.size := by omega
  have b2 : (s[2]'hl2).toNat < 256 := (s[2]'hl2).toNat_lt
  have m2 := u8_and63 ((s[2]'hl2).toNat : Int) (by omega) (by omega)
  have a2 : bits .and .u8 ((s[2]'hl2).toNat : Int) 192 = 128 := by rw [u8_and192 _ b2]; have := byte_eq hl2; omega
  have o2 := i32_or6 (((((s[0]'hl0).toNat : Int) % (16 : Int)) * (64 : Int) + ((s[1]'hl1).toNat : Int) % (64 : Int)) * 64) (((s[2]'hl2).toNat : Int) % 64) (by omega) (by omega) (by omega) (by omega) (by omega)
  have hc'' : (((((s[0]'hl0).toNat : Int) % (16 : Int)) * (64 : Int) + ((s[1]'hl1).toNat : Int) % (64 : Int)) * (64 : Int) + ((s[2]'hl2).toNat : Int) % (64 : Int) : Int) = (c : Int) := by have := byte_eq hl1; have := byte_eq hl2; omega
  have C0 : Hid _ := Lib.hid hc''
  clear e0 hc hc' hc'' h1 h2 ht' h1' h2' ht
  have Hv : Hid _ := Lib.hid hv
  have HK : ((Ch.lenN c : Int) != 3) = true := by rw [bne_iff_ne]; omega
  clear hk
  clear hv hr
  unfold maxLen at hs
  go_enter Tryd.func47, Tryd.ntmps47
  go_wp2
  go_quiet (fail)
  go_wp2
  refine wp_loop_rounds 3 ?_
  iterate 3 (rw [rounds_succ]; go_wp2_with (first | (go_at_call 8; refine (f8_any _ _ (hG.drewN _)).mono ?_; rintro e w1 ⟨rfl, hb⟩; rw [C0.out, Hv.out]) | (go_at_call 45; refine (f45_nil _ hcm _).mono ?_; rintro e w2 ⟨⟨g, cap, rfl, hown⟩, hb2⟩)))
  go_ret2
  go_light
  exact ⟨rfl, (below_of_drewN hb).trans (hb2.mono (below_of_drewN hb).size)⟩

set_option maxRecDepth 100000 in
set_option maxHeartbeats 400000 in
theorem f47_3_not (s : ByteArray) (w : World) (hG : Rng w) (hs : s.size ≤ maxLen) (c : Nat) (hr : Ch.raw (bts s) = some (c, 3)) (hv : Ch.valid c = false) :
    Calls Tryd.prog 47 #[.string s] w fun e w' => e = .returned (.tuple #[.int .i32 0, .int .i64 0]) ∧ Below w.heap.size w w' := by
  obtain ⟨hlen, h1, h2, ht', hc⟩ := Ch.raw_3 hr
  rw [bts_length] at hlen
  have h1' : 224 ≤ gb s 0 := h1
  have h2' : gb s 0 < 240 := h2
  have ht : 128 ≤ gb s 1 ∧ gb s 1 < 192 ∧ 128 ≤ gb s 2 ∧ gb s 2 < 192 := ht'
  have hc' : c = ((gb s 0 - 224) * 64 + (gb s 1 - 128)) * 64 + (gb s 2 - 128) := hc
  have hl0 : 0 < s.size := by omega
  have e0 := byte_eq hl0
  have t0 : 224 ≤ (s[0]'hl0).toNat := by omega
  have u0 : (s[0]'hl0).toNat < 240 := by omega
  have m0 := i32_and15 ((s[0]'hl0).toNat : Int) (by omega) (by omega)
  have hl1 : 1 < s.size := by omega
  have b1 : (s[1]'hl1).toNat < 256 := (s[1]'hl1).toNat_lt
  have m1 := u8_and63 ((s[1]'hl1).toNat : Int) (by omega) (by omega)
  have a1 : bits .and .u8 ((s[1]'hl1).toNat : Int) 192 = 128 := by rw [u8_and192 _ b1]; have := byte_eq hl1; omega
  have o1 := i32_or6 ((((s[0]'hl0).toNat : Int) % (16 : Int)) * 64) (((s[1]'hl1).toNat : Int) % 64) (by omega) (by omega) (by omega) (by omega) (by omega)
  have hl2 : 2 < s.size := by omega
  have b2 : (s[2]'hl2).toNat < 256 := (s[2]'hl2).toNat_lt
  have m2 := u8_and63 ((s[2]'hl2).toNat : Int) (by omega) (by omega)
  have a2 : bits .and .u8 ((s[2]'hl2).toNat : Int) 192 = 128 := by rw [u8_and192 _ b2]; have := byte_eq hl2; omega
  have o2 := i32_or6 (((((s[0]'hl0).toNat : Int) % (16 : Int)) * (64 : Int) + ((s[1]'hl1).toNat : Int) % (64 : Int)) * 64) (((s[2]'hl2).toNat : Int) % 64) (by omega) (by omega) (by omega) (by omega) (by omega)
  have hc'' : (((((s[0]'hl0).toNat : Int) % (16 : Int)) * (64 : Int) + ((s[1]'hl1).toNat : Int) % (64 : Int)) * (64 : Int) + ((s[2]'hl2).toNat : Int) % (64 : Int) : Int) = (c : Int) := by have := byte_eq hl1; have := byte_eq hl2; omega
  have C0 : Hid _ := Lib.hid hc''
  clear e0 hc hc' hc'' h1 h2 ht' h1' h2' ht
  have Hv : Hid _ := Lib.hid hv
  clear hv hr
  unfold maxLen at hs
  go_enter Tryd.func47, Tryd.ntmps47
  go_wp2
  go_quiet (fail)
  go_wp2
  refine wp_loop_rounds 3 ?_
  iterate 3 (rw [rounds_succ]; go_wp2_with (first | (go_at_call 8; refine (f8_any _ _ (hG.drewN _)).mono ?_; rintro e w1 ⟨rfl, hb⟩; rw [C0.out, Hv.out])))
  go_ret2
  go_light
  exact ⟨rfl, below_of_drewN hb⟩

set_option maxRecDepth 100000 in
set_option maxHeartbeats 400000 in
theorem f47_4_yes (s : ByteArray) (w : World) (hG : Rng w) (hs : s.size ≤ maxLen) (c : Nat) (hr : Ch.raw (bts s) = some (c, 4)) (hv : Ch.valid c = true) (hk : Ch.lenN c = 4) :
    Calls Tryd.prog 47 #[.string s] w fun e w' => e = .returned (.tuple #[.int .i32 c, .int .i64 4]) ∧ Below w.heap.size w w' := by
  have hcm := valid_nat hv
  obtain ⟨hlen, h1, h2, ht', hc⟩ := Ch.raw_4 hr
  rw [bts_length] at hlen
  have h1' : 240 ≤ gb s 0 := h1
  have h2' : gb s 0 < 248 := h2
  have ht : 128 ≤ gb s 1 ∧ gb s 1 < 192 ∧ 128 ≤ gb s 2 ∧ gb s 2 < 192 ∧ 128 ≤ gb s 3 ∧ gb s 3 < 192 := ht'
  have hc' : c = (((gb s 0 - 240) * 64 + (gb s 1 - 128)) * 64 + (gb s 2 - 128)) * 64 + (gb s 3 - 128) := hc
  have hl0 : 0 < s.size := by omega
  have e0 := byte_eq hl0
  have t0 : 240 ≤ (s[0]'hl0).toNat := by omega
  have u0 : (s[0]'hl0).toNat < 248 := by omega
  have m0 := i32_and7 ((s[0]'hl0).toNat : Int) (by omega) (by omega)
  have hl1 : 1 < s.size := by omega
  have b1 : (s[1]'hl1).toNat < 256 := (s[1]'hl1).toNat_lt
  have m1 := u8_and63 ((s[1]'hl1).toNat : Int) (by omega) (by omega)
  have a1 : bits .and .u8 ((s[1]'hl1).toNat : Int) 192 = 128 := by rw [u8_and192 _ b1]; have := byte_eq hl1; omega
  have o1 := i32_or6 ((((s[0]'hl0).toNat : Int) % (8 : Int)) * 64) (((s[1]'hl1).toNat : Int) % 64) (by omega) (by omega) (by omega) (by omega) (by omega)
  have hl2 : 2 < s.size := by omega
  have b2 : (s[2]'hl2).toNat < 256 := (s[2]'hl2).toNat_lt
  have m2 := u8_and63 ((s[2]'hl2).toNat : Int) (by omega) (by omega)
  have a2 : bits .and .u8 ((s[2]'hl2).toNat : Int) 192 = 128 := by rw [u8_and192 _ b2]; have := byte_eq hl2; omega
  have o2 := i32_or6 (((((s[0]'hl0).toNat : Int) % (8 : Int)) * (64 : Int) + ((s[1]'hl1).toNat : Int) % (64 : Int)) * 64) (((s[2]'hl2).toNat : Int) % 64) (by omega) (by omega) (by omega) (by omega) (by omega)
  have hl3 : 3 < s.size := by omega
  have b3 : (s[3]'hl3).toNat < 256 := (s[3]'hl3).toNat_lt
  have m3 := u8_and63 ((s[3]'hl3).toNat : Int) (by omega) (by omega)
  have a3 : bits .and .u8 ((s[3]'hl3).toNat : Int) 192 = 128 := by rw [u8_and192 _ b3]; have := byte_eq hl3; omega
  have o3 := i32_or6 ((((((s[0]'hl0).toNat : Int) % (8 : Int)) * (64 : Int) + ((s[1]'hl1).toNat : Int) % (64 : Int)) * (64 : Int) + ((s[2]'hl2).toNat : Int) % (64 : Int)) * 64) (((s[3]'hl3).toNat : Int) % 64) (by omega) (by omega) (by omega) (by omega) (by omega)
  have hc'' : ((((((s[0]'hl0).toNat : Int) % (8 : Int)) * (64 : Int) + ((s[1]'hl1).toNat : Int) % (64 : Int)) * (64 : Int) + ((s[2]'hl2).toNat : Int) % (64 : Int)) * (64 : Int) + ((s[3]'hl3).toNat : Int) % (64 : Int) : Int) = (c : Int) := by have := byte_eq hl1; have := byte_eq hl2; have := byte_eq hl3; omega
  have C0 : Hid _ := Lib.hid hc''
  clear e0 hc hc' hc'' h1 h2 ht' h1' h2' ht
  have Hv : Hid _ := Lib.hid hv
  have HK : ((Ch.lenN c : Int) != 4) = false := by rw [hk]; rfl
  clear hk
  clear hv hr
  unfold maxLen at hs
  go_enter Tryd.func47, Tryd.ntmps47
  go_wp2
  go_quiet (fail)
  go_wp2
  refine wp_loop_rounds 4 ?_
  iterate 4 (rw [rounds_succ]; go_wp2_with (first | (go_at_call 8; refine (f8_any _ _ (hG.drewN _)).mono ?_; rintro e w1 ⟨rfl, hb⟩; rw [C0.out, Hv.out]) | (go_at_call 45; refine (f45_nil _ hcm _).mono ?_; rintro e w2 ⟨⟨g, cap, rfl, hown⟩, hb2⟩)))
  go_ret2
  go_light
  exact ⟨rfl, (below_of_drewN hb).trans (hb2.mono (below_of_drewN hb).size)⟩

set_option maxRecDepth 100000 in
set_option maxHeartbeats 400000 in
theorem f47_4_long (s : ByteArray) (w : World) (hG : Rng w) (hs : s.size ≤ maxLen) (c : Nat) (hr : Ch.raw (bts s) = some (c, 4)) (hv : Ch.valid c = true) (hk : Ch.lenN c ≠ 4) :
    Calls Tryd.prog 47 #[.string s] w fun e w' => e = .returned (.tuple #[.int .i32 0, .int .i64 0]) ∧ Below w.heap.size w w' := by
  have hcm := valid_nat hv
  obtain ⟨hlen, h1, h2, ht', hc⟩ := Ch.raw_4 hr
  rw [bts_length] at hlen
  have h1' : 240 ≤ gb s 0 := h1
  have h2' : gb s 0 < 248 := h2
  have ht : 128 ≤ gb s 1 ∧ gb s 1 < 192 ∧ 128 ≤ gb s 2 ∧ gb s 2 < 192 ∧ 128 ≤ gb s 3 ∧ gb s 3 < 192 := ht'
  have hc' : c = (((gb s 0 - 240) * 64 + (gb s 1 - 128)) * 64 + (gb s 2 - 128)) * 64 + (gb s 3 - 128) := hc
  have hl0 : 0 < s.size := by omega
  have e0 := byte_eq hl0
  have t0 : 240 ≤ (s[0]'hl0).toNat := by omega
  have u0 : (s[0]'hl0).toNat < 248 := by omega
  have m0 := i32_and7 ((s[0]'hl0).toNat : Int) (by omega) (by omega)
  have hl1 : 1 < s.size := by omega
  have b1 : (s[1]'hl1).toNat < 256 := (s[1]'hl1).toNat_lt
  have m1 := u8_and63 ((s[1]'hl1).toNat : Int) (by omega) (by omega)
  have a1 : bits .and .u8 ((s[1]'hl1).toNat : Int) 192 = 128 := by rw [u8_and192 _ b1]; have := byte_eq hl1; omega
  have o1 := i32_or6 ((((s[0]'hl0).toNat : Int) % (8 : Int)) * 64) (((s[1]'hl1).toNat : Int) % 64) (by omega) (by omega) (by omega) (by omega) (by omega)
  have hl2 : 2 < s.size := by omega
  have b2 : (s[2]'hl2).toNat < 256 := (s[2]'hl2).toNat_lt
  have m2 := u8_and63 ((s[2]'hl2).toNat : Int) (by omega) (by omega)
  have a2 : bits .and .u8 ((s[2]'hl2).toNat : Int) 192 = 128 := by rw [u8_and192 _ b2]; have := byte_eq hl2; omega
  have o2 := i32_or6 (((((s[0]'hl0).toNat : Int) % (8 : Int)) * (64 : Int) + ((s[1]'hl1).toNat : Int) % (64 : Int)) * 64) (((s[2]'hl2).toNat : Int) % 64) (by omega) (by omega) (by omega) (by omega) (by omega)
  have hl3 : 3 < s.size := by omega
  have b3 : (s[3]'hl3).toNat < 256 := (s[3]'hl3).toNat_lt
  have m3 := u8_and63 ((s[3]'hl3).toNat : Int) (by omega) (by omega)
  have a3 : bits .and .u8 ((s[3]'hl3).toNat : Int) 192 = 128 := by rw [u8_and192 _ b3]; have := byte_eq hl3; omega
  have o3 := i32_or6 ((((((s[0]'hl0).toNat : Int) % (8 : Int)) * (64 : Int) + ((s[1]'hl1).toNat : Int) % (64 : Int)) * (64 : Int) + ((s[2]'hl2).toNat : Int) % (64 : Int)) * 64) (((s[3]'hl3).toNat : Int) % 64) (by omega) (by omega) (by omega) (by omega) (by omega)
  have hc'' : ((((((s[0]'hl0).toNat : Int) % (8 : Int)) * (64 : Int) + ((s[1]'hl1).toNat : Int) % (64 : Int)) * (64 : Int) + ((s[2]'hl2).toNat : Int) % (64 : Int)) * (64 : Int) + ((s[3]'hl3).toNat : Int) % (64 : Int) : Int) = (c : Int) := by have := byte_eq hl1; have := byte_eq hl2; have := byte_eq hl3; omega
  have C0 : Hid _ := Lib.hid hc''
  clear e0 hc hc' hc'' h1 h2 ht' h1' h2' ht
  have Hv : Hid _ := Lib.hid hv
  have HK : ((Ch.lenN c : Int) != 4) = true := by rw [bne_iff_ne]; omega
  clear hk
  clear hv hr
  unfold maxLen at hs
  go_enter Tryd.func47, Tryd.ntmps47
  go_wp2
  go_quiet (fail)
  go_wp2
  refine wp_loop_rounds 4 ?_
  iterate 4 (rw [rounds_succ]; go_wp2_with (first | (go_at_call 8; refine (f8_any _ _ (hG.drewN _)).mono ?_; rintro e w1 ⟨rfl, hb⟩; rw [C0.out, Hv.out]) | (go_at_call 45; refine (f45_nil _ hcm _).mono ?_; rintro e w2 ⟨⟨g, cap, rfl, hown⟩, hb2⟩)))
  go_ret2
  go_light
  exact ⟨rfl, (below_of_drewN hb).trans (hb2.mono (below_of_drewN hb).size)⟩

set_option maxRecDepth 100000 in
set_option maxHeartbeats 400000 in
theorem f47_4_not (s : ByteArray) (w : World) (hG : Rng w) (hs : s.size ≤ maxLen) (c : Nat) (hr : Ch.raw (bts s) = some (c, 4)) (hv : Ch.valid c = false) :
    Calls Tryd.prog 47 #[.string s] w fun e w' => e = .returned (.tuple #[.int .i32 0, .int .i64 0]) ∧ Below w.heap.size w w' := by
  obtain ⟨hlen, h1, h2, ht', hc⟩ := Ch.raw_4 hr
  rw [bts_length] at hlen
  have h1' : 240 ≤ gb s 0 := h1
  have h2' : gb s 0 < 248 := h2
  have ht : 128 ≤ gb s 1 ∧ gb s 1 < 192 ∧ 128 ≤ gb s 2 ∧ gb s 2 < 192 ∧ 128 ≤ gb s 3 ∧ gb s 3 < 192 := ht'
  have hc' : c = (((gb s 0 - 240) * 64 + (gb s 1 - 128)) * 64 + (gb s 2 - 128)) * 64 + (gb s 3 - 128) := hc
  have hl0 : 0 < s.size := by omega
  have e0 := byte_eq hl0
  have t0 : 240 ≤ (s[0]'hl0).toNat := by omega
  have u0 : (s[0]'hl0).toNat < 248 := by omega
  have m0 := i32_and7 ((s[0]'hl0).toNat : Int) (by omega) (by omega)
  have hl1 : 1 < s.size := by omega
  have b1 : (s[1]'hl1).toNat < 256 := (s[1]'hl1).toNat_lt
  have m1 := u8_and63 ((s[1]'hl1).toNat : Int) (by omega) (by omega)
  have a1 : bits .and .u8 ((s[1]'hl1).toNat : Int) 192 = 128 := by rw [u8_and192 _ b1]; have := byte_eq hl1; omega
  have o1 := i32_or6 ((((s[0]'hl0).toNat : Int) % (8 : Int)) * 64) (((s[1]'hl1).toNat : Int) % 64) (by omega) (by omega) (by omega) (by omega) (by omega)
  have hl2 : 2 < s.size := by omega
  have b2 : (s[2]'hl2).toNat < 256 := (s[2]'hl2).toNat_lt
  have m2 := u8_and63 ((s[2]'hl2).toNat : Int) (by omega) (by omega)
  have a2 : bits .and .u8 ((s[2]'hl2).toNat : Int) 192 = 128 := by rw [u8_and192 _ b2]; have := byte_eq hl2; omega
  have o2 := i32_or6 (((((s[0]'hl0).toNat : Int) % (8 : Int)) * (64 : Int) + ((s[1]'hl1).toNat : Int) % (64 : Int)) * 64) (((s[2]'hl2).toNat : Int) % 64) (by omega) (by omega) (by omega) (by omega) (by omega)
  have hl3 : 3 < s.size := by omega
  have b3 : (s[3]'hl3).toNat < 256 := (s[3]'hl3).toNat_lt
  have m3 := u8_and63 ((s[3]'hl3).toNat : Int) (by omega) (by omega)
  have a3 : bits .and .u8 ((s[3]'hl3).toNat : Int) 192 = 128 := by rw [u8_and192 _ b3]; have := byte_eq hl3; omega
  have o3 := i32_or6 ((((((s[0]'hl0).toNat : Int) % (8 : Int)) * (64 : Int) + ((s[1]'hl1).toNat : Int) % (64 : Int)) * (64 : Int) + ((s[2]'hl2).toNat : Int) % (64 : Int)) * 64) (((s[3]'hl3).toNat : Int) % 64) (by omega) (by omega) (by omega) (by omega) (by omega)
  have hc'' : ((((((s[0]'hl0).toNat : Int) % (8 : Int)) * (64 : Int) + ((s[1]'hl1).toNat : Int) % (64 : Int)) * (64 : Int) + ((s[2]'hl2).toNat : Int) % (64 : Int)) * (64 : Int) + ((s[3]'hl3).toNat : Int) % (64 : Int) : Int) = (c : Int) := by have := byte_eq hl1; have := byte_eq hl2; have := byte_eq hl3; omega
  have C0 : Hid _ := Lib.hid hc''
  clear e0 hc hc' hc'' h1 h2 ht' h1' h2' ht
  have Hv : Hid _ := Lib.hid hv
  clear hv hr
  unfold maxLen at hs
  go_enter Tryd.func47, Tryd.ntmps47
  go_wp2
  go_quiet (fail)
  go_wp2
  refine wp_loop_rounds 4 ?_
  iterate 4 (rw [rounds_succ]; go_wp2_with (first | (go_at_call 8; refine (f8_any _ _ (hG.drewN _)).mono ?_; rintro e w1 ⟨rfl, hb⟩; rw [C0.out, Hv.out])))
  go_ret2
  go_light
  exact ⟨rfl, below_of_drewN hb⟩

set_option maxRecDepth 100000 in
set_option maxHeartbeats 400000 in
theorem f47_low (s : ByteArray) (w : World) (hl0 : 0 < s.size) (h1 : 128 ≤ gb s 0) (h2 : gb s 0 < 192) :
    Calls Tryd.prog 47 #[.string s] w fun e w' => e = .returned (.tuple #[.int .i32 0, .int .i64 0]) ∧ Below w.heap.size w w' := by
  have e0 := byte_eq hl0
  have t0 : 128 ≤ (s[0]'hl0).toNat := by omega
  have u0 : (s[0]'hl0).toNat < 192 := by omega
  clear h2
  clear e0 h1
  go_enter Tryd.func47, Tryd.ntmps47
  go_wp2
  go_quiet (fail)
  go_wp2
  go_ret2
  go_light
  exact ⟨rfl, below_drewN (Below.refl _ _) _⟩

set_option maxRecDepth 100000 in
set_option maxHeartbeats 400000 in
theorem f47_high (s : ByteArray) (w : World) (hl0 : 0 < s.size) (h1 : 248 ≤ gb s 0) :
    Calls Tryd.prog 47 #[.string s] w fun e w' => e = .returned (.tuple #[.int .i32 0, .int .i64 0]) ∧ Below w.heap.size w w' := by
  have e0 := byte_eq hl0
  have t0 : 248 ≤ (s[0]'hl0).toNat := by omega
  have u0 : (s[0]'hl0).toNat < 256 := (s[0]'hl0).toNat_lt
  clear e0 h1
  go_enter Tryd.func47, Tryd.ntmps47
  go_wp2
  go_quiet (fail)
  go_wp2
  go_ret2
  go_light
  exact ⟨rfl, below_drewN (Below.refl _ _) _⟩

set_option maxRecDepth 100000 in
set_option maxHeartbeats 400000 in
theorem f47_2_no (s : ByteArray) (w : World) (hs : s.size ≤ maxLen) (hl0 : 0 < s.size) (h1 : 192 ≤ gb s 0) (h2 : gb s 0 < 224) (hno : ¬ (2 ≤ s.size ∧ 128 ≤ gb s 1 ∧ gb s 1 < 192)) :
    Calls Tryd.prog 47 #[.string s] w fun e w' => e = .returned (.tuple #[.int .i32 0, .int .i64 0]) ∧ Below w.heap.size w w' := by
  have e0 := byte_eq hl0
  have t0 : 192 ≤ (s[0]'hl0).toNat := by omega
  have u0 : (s[0]'hl0).toNat < 224 := by omega
  have HN : Hid _ := Lib.hid hno
  clear e0 h1 h2 hno
  unfold maxLen at hs
  by_cases hlen : 2 ≤ s.size
  · have hno := HN.out
    have m0 := i32_and31 ((s[0]'hl0).toNat : Int) (by omega) (by omega)
    have hl1 : 1 < s.size := by omega
    have b1 : (s[1]'hl1).toNat < 256 := (s[1]'hl1).toNat_lt
    have m1 := u8_and63 ((s[1]'hl1).toNat : Int) (by omega) (by omega)
    have a1 := u8_and192 _ b1
    have x1 : (((s[1]'hl1).toNat : Int) / 64 * 64 != 128) = true := by rw [bne_iff_ne]; have := byte_eq hl1; omega
    clear hno 
    go_enter Tryd.func47, Tryd.ntmps47
    go_wp2
    go_quiet (fail)
    go_wp2
    refine wp_loop_rounds 2 ?_
    iterate 1 (rw [rounds_succ]; go_wp2)
    go_ret2
    go_light
    exact ⟨rfl, below_drewN (Below.refl _ _) _⟩
  · go_enter Tryd.func47, Tryd.ntmps47
    go_wp2
    go_quiet (fail)
    go_wp2
    go_ret2
    go_light
    exact ⟨rfl, below_drewN (Below.refl _ _) _⟩

set_option maxRecDepth 100000 in
set_option maxHeartbeats 400000 in
theorem f47_3_no (s : ByteArray) (w : World) (hs : s.size ≤ maxLen) (hl0 : 0 < s.size) (h1 : 224 ≤ gb s 0) (h2 : gb s 0 < 240) (hno : ¬ (3 ≤ s.size ∧ 128 ≤ gb s 1 ∧ gb s 1 < 192 ∧ 128 ≤ gb s 2 ∧ gb s 2 < 192)) :
    Calls Tryd.prog 47 #[.string s] w fun e w' => e = .returned (.tuple #[.int .i32 0, .int .i64 0]) ∧ Below w.heap.size w w' := by
  have e0 := byte_eq hl0
  have t0 : 224 ≤ (s[0]'hl0).toNat := by omega
  have u0 : (s[0]'hl0).toNat < 240 := by omega
  have HN : Hid _ := Lib.hid hno
  clear e0 h1 h2 hno
  unfold maxLen at hs
  by_cases hlen : 3 ≤ s.size
  · have hno := HN.out
    have m0 := i32_and15 ((s[0]'hl0).toNat : Int) (by omega) (by omega)
    have hl1 : 1 < s.size := by omega
    have b1 : (s[1]'hl1).toNat < 256 := (s[1]'hl1).toNat_lt
    have m1 := u8_and63 ((s[1]'hl1).toNat : Int) (by omega) (by omega)
    have a1 := u8_and192 _ b1
    have o1 := i32_or6 ((((s[0]'hl0).toNat : Int) % (16 : Int)) * 64) (((s[1]'hl1).toNat : Int) % 64) (by omega) (by omega) (by omega) (by omega) (by omega)
    have hl2 : 2 < s.size := by omega
    have b2 : (s[2]'hl2).toNat < 256 := (s[2]'hl2).toNat_lt
    have m2 := u8_and63 ((s[2]'hl2).toNat : Int) (by omega) (by omega)
    have a2 := u8_and192 _ b2
    by_cases q1 : 128 ≤ gb s 1 ∧ gb s 1 < 192
    · have x1 : (((s[1]'hl1).toNat : Int) / 64 * 64 != 128) = false := by rw [bne_eq_false_iff_eq]; have := byte_eq hl1; omega
      have x2 : (((s[2]'hl2).toNat : Int) / 64 * 64 != 128) = true := by rw [bne_iff_ne]; have := byte_eq hl2; omega
      clear hno q1
      go_enter Tryd.func47, Tryd.ntmps47
      go_wp2
      go_quiet (fail)
      go_wp2
      refine wp_loop_rounds 3 ?_
      iterate 2 (rw [rounds_succ]; go_wp2)
      go_ret2
      go_light
      exact ⟨rfl, below_drewN (Below.refl _ _) _⟩
    · have x1 : (((s[1]'hl1).toNat : Int) / 64 * 64 != 128) = true := by rw [bne_iff_ne]; have := byte_eq hl1; omega
      clear hno q1
      go_enter Tryd.func47, Tryd.ntmps47
      go_wp2
      go_quiet (fail)
      go_wp2
      refine wp_loop_rounds 3 ?_
      iterate 1 (rw [rounds_succ]; go_wp2)
      go_ret2
      go_light
      exact ⟨rfl, below_drewN (Below.refl _ _) _⟩
  · go_enter Tryd.func47, Tryd.ntmps47
    go_wp2
    go_quiet (fail)
    go_wp2
    go_ret2
    go_light
    exact ⟨rfl, below_drewN (Below.refl _ _) _⟩

set_option maxRecDepth 100000 in
set_option maxHeartbeats 400000 in
theorem f47_4_no (s : ByteArray) (w : World) (hs : s.size ≤ maxLen) (hl0 : 0 < s.size) (h1 : 240 ≤ gb s 0) (h2 : gb s 0 < 248) (hno : ¬ (4 ≤ s.size ∧ 128 ≤ gb s 1 ∧ gb s 1 < 192 ∧ 128 ≤ gb s 2 ∧ gb s 2 < 192 ∧ 128 ≤ gb s 3 ∧ gb s 3 < 192)) :
    Calls Tryd.prog 47 #[.string s] w fun e w' => e = .returned (.tuple #[.int .i32 0, .int .i64 0]) ∧ Below w.heap.size w w' := by
  have e0 := byte_eq hl0
  have t0 : 240 ≤ (s[0]'hl0).toNat := by omega
  have u0 : (s[0]'hl0).toNat < 248 := by omega
  have HN : Hid _ := Lib.hid hno
  clear e0 h1 h2 hno
  unfold maxLen at hs
  by_cases hlen : 4 ≤ s.size
  · have hno := HN.out
    have m0 := i32_and7 ((s[0]'hl0).toNat : Int) (by omega) (by omega)
    have hl1 : 1 < s.size := by omega
    have b1 : (s[1]'hl1).toNat < 256 := (s[1]'hl1).toNat_lt
    have m1 := u8_and63 ((s[1]'hl1).toNat : Int) (by omega) (by omega)
    have a1 := u8_and192 _ b1
    have o1 := i32_or6 ((((s[0]'hl0).toNat : Int) % (8 : Int)) * 64) (((s[1]'hl1).toNat : Int) % 64) (by omega) (by omega) (by omega) (by omega) (by omega)
    have hl2 : 2 < s.size := by omega
    have b2 : (s[2]'hl2).toNat < 256 := (s[2]'hl2).toNat_lt
    have m2 := u8_and63 ((s[2]'hl2).toNat : Int) (by omega) (by omega)
    have a2 := u8_and192 _ b2
    have o2 := i32_or6 (((((s[0]'hl0).toNat : Int) % (8 : Int)) * (64 : Int) + ((s[1]'hl1).toNat : Int) % (64 : Int)) * 64) (((s[2]'hl2).toNat : Int) % 64) (by omega) (by omega) (by omega) (by omega) (by omega)
    have hl3 : 3 < s.size := by omega
    have b3 : (s[3]'hl3).toNat < 256 := (s[3]'hl3).toNat_lt
    have m3 := u8_and63 ((s[3]'hl3).toNat : Int) (by omega) (by omega)
    have a3 := u8_and192 _ b3
    by_cases q1 : 128 ≤ gb s 1 ∧ gb s 1 < 192
    · have x1 : (((s[1]'hl1).toNat : Int) / 64 * 64 != 128) = false := by rw [bne_eq_false_iff_eq]; have := byte_eq hl1; omega
      by_cases q2 : 128 ≤ gb s 2 ∧ gb s 2 < 192
      · have x2 : (((s[2]'hl2).toNat : Int) / 64 * 64 != 128) = false := by rw [bne_eq_false_iff_eq]; have := byte_eq hl2; omega
        have x3 : (((s[3]'hl3).toNat : Int) / 64 * 64 != 128) = true := by rw [bne_iff_ne]; have := byte_eq hl3; omega
        clear hno q1 q2
        go_enter Tryd.func47, Tryd.ntmps47
        go_wp2
        go_quiet (fail)
        go_wp2
        refine wp_loop_rounds 4 ?_
        iterate 3 (rw [rounds_succ]; go_wp2)
        go_ret2
        go_light
        exact ⟨rfl, below_drewN (Below.refl _ _) _⟩
      · have x2 : (((s[2]'hl2).toNat : Int) / 64 * 64 != 128) = true := by rw [bne_iff_ne]; have := byte_eq hl2; omega
        clear hno q2
        go_enter Tryd.func47, Tryd.ntmps47
        go_wp2
        go_quiet (fail)
        go_wp2
        refine wp_loop_rounds 4 ?_
        iterate 2 (rw [rounds_succ]; go_wp2)
        go_ret2
        go_light
        exact ⟨rfl, below_drewN (Below.refl _ _) _⟩
    · have x1 : (((s[1]'hl1).toNat : Int) / 64 * 64 != 128) = true := by rw [bne_iff_ne]; have := byte_eq hl1; omega
      clear hno q1
      go_enter Tryd.func47, Tryd.ntmps47
      go_wp2
      go_quiet (fail)
      go_wp2
      refine wp_loop_rounds 4 ?_
      iterate 1 (rw [rounds_succ]; go_wp2)
      go_ret2
      go_light
      exact ⟨rfl, below_drewN (Below.refl _ _) _⟩
  · go_enter Tryd.func47, Tryd.ntmps47
    go_wp2
    go_quiet (fail)
    go_wp2
    go_ret2
    go_light
    exact ⟨rfl, below_drewN (Below.refl _ _) _⟩

theorem f47_some (s : ByteArray) (w : World) (hG : Rng w) (hs : s.size ≤ maxLen) (c n : Nat) (hd : Ch.dec (bts s) = some (c, n)) :
    Calls Tryd.prog 47 #[.string s] w fun e w' => e = .returned (.tuple #[.int .i32 c, .int .i64 n]) ∧ Below w.heap.size w w' := by
  obtain ⟨hr, hv, hn⟩ := Ch.dec_some hd
  obtain ⟨h1, h4, _⟩ := Ch.raw_le hr
  obtain rfl | rfl | rfl | rfl : n = 1 ∨ n = 2 ∨ n = 3 ∨ n = 4 := by omega
  · exact f47_1_yes s w hG hs c hr hv hn
  · exact f47_2_yes s w hG hs c hr hv hn
  · exact f47_3_yes s w hG hs c hr hv hn
  · exact f47_4_yes s w hG hs c hr hv hn
theorem f47_none (s : ByteArray) (w : World) (hG : Rng w) (hs : s.size ≤ maxLen) (hl0 : 0 < s.size) (hd : Ch.dec (bts s) = none) :
    Calls Tryd.prog 47 #[.string s] w fun e w' => e = .returned (.tuple #[.int .i32 0, .int .i64 0]) ∧ Below w.heap.size w w' := by
  cases hr : Ch.raw (bts s) with
  | none =>
    rcases Ch.raw_none hr with h0 | ⟨hl, ⟨h1, h2⟩ | h1 | ⟨h1, h2, h3⟩ | ⟨h1, h2, h3⟩ | ⟨h1, h2, h3⟩⟩
    · rw [bts_length] at h0; omega
    · exact f47_low s w hl0 h1 h2
    · exact f47_high s w hl0 h1
    all_goals rw [bts_length] at h3
    · exact f47_2_no s w hs hl0 h1 h2 h3
    · exact f47_3_no s w hs hl0 h1 h2 h3
    · exact f47_4_no s w hs hl0 h1 h2 h3
  | some p =>
    obtain ⟨c, n⟩ := p
    have hg : Ch.good c n = false := by
      cases hg : Ch.good c n
      · rfl
      · unfold Ch.dec at hd; rw [hr] at hd; simp only [hg, if_true] at hd; cases hd
    obtain ⟨h1, h4, _⟩ := Ch.raw_le hr
    cases hv : Ch.valid c
    · obtain rfl | rfl | rfl | rfl : n = 1 ∨ n = 2 ∨ n = 3 ∨ n = 4 := by omega
      · exact f47_1_not s w hG hs c hr hv
      · exact f47_2_not s w hG hs c hr hv
      · exact f47_3_not s w hG hs c hr hv
      · exact f47_4_not s w hG hs c hr hv
    · have hk : Ch.lenN c ≠ n := by
        intro e; rw [Ch.good, hv, Bool.true_and, decide_eq_true e] at hg; cases hg
      obtain rfl | rfl | rfl | rfl : n = 1 ∨ n = 2 ∨ n = 3 ∨ n = 4 := by omega
      · exfalso
        obtain ⟨_, hc, e⟩ := Ch.raw_1 hr
        apply hk; unfold Ch.lenN; rw [if_pos (by omega)]
      · exact f47_2_long s w hG hs c hr hv hk
      · exact f47_3_long s w hG hs c hr hv hk
      · exact f47_4_long s w hG hs c hr hv hk
end Go.Proofs.YtllnfiidmpopkaaDoor
