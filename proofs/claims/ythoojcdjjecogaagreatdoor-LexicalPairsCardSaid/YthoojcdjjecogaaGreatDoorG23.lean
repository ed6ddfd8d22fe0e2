/-
  Part 23 of the proof: what functions return, and plain facts (Cfirst Call Cdecode Crdecode). Conditions: each theorem names its own.
-/
import Derived.Deep.DeepMust
import Derived.Test.YthoojcdjjecogaaGreatDoorG22
import Derived.RangeFuncNested
import Derived.RangeFuncBound
import Derived.RangeFuncCalls
import Derived.RangeFuncLeaves
import Derived.Shelf.Abstract
import Derived.Shelf.RegionOpen
import Derived.WalkKit
import Derived.OwnWalkIn
import Derived.TacticsInMore
import Derived.LoopNIn
import Derived.LoopIn
import Derived.Maps.AppendAt
import Derived.LoopTactic
set_option maxRecDepth 1000000
set_option maxHeartbeats 16000000
namespace Go.Proofs.YthoojcdjjecogaaGreatDoor
open Go Go.RowKit
theorem f45_nil (c : Nat) (hc : c <= 1114111) (w : World) :
  Calls Tryz.prog 116 #[.slice none 0 0, .int .i32 c] w fun e w' => (∃ g cap, e = .returned (.slice (some ⟨g, 0, none⟩) (Ch.lenN c) cap) /\ w'.ownsRow w.heap.size 5 1 (.slice (some ⟨g, 0, none⟩) (Ch.lenN c) cap) (Ch.lenN c) (u8s (Ch.encN c))) /\ Below w.heap.size w w' := by
 refine (f45_any c hc (.slice none 0 0) [] w.heap.size w (Nat.le_refl _) ⟨rfl, .inl ⟨rfl, rfl⟩⟩ (by simp)).mono ?_
 rintro e w' ⟨v', rfl, hown, hg⟩
 simp only [List.length_nil, Nat.zero_add, List.nil_append] at hown
 refine ⟨?_, below_of_grown hg⟩
 have hp := Ch.lenN_pos c
 obtain ⟨hl, ⟨rfl, h0⟩ | ⟨g, cap, cur, rfl, h⟩⟩ := hown
 ·omega
 ·exact ⟨g, cap, rfl, hl, .inr ⟨g, cap, cur, rfl, h⟩⟩

theorem Rng.drewN {w : World} (h : Rng w) (n : Nat) : Rng (w.drewN n) := by
 obtain ⟨T, fr, h⟩ := h
 exact ⟨T, fr, h⟩
theorem u8_and192 (b : Nat) (h : b < 256) : bits .and .u8 (b : Int) 192 = (b : Int) / 64 * 64 := by
 have e : bits .and .u8 (b : Int) ((192 : Nat) : Int) = ((b &&& 192 : Nat) : Int) := u8_and_nat b 192 h (by decide)
 have e2 : b &&& 192 = b / 64 * 64 := by
  have : ∀ b : Fin 256, b.val &&& 192 = b.val / 64 * 64 := by decide +kernel
  exact this ⟨b, h⟩
 rw [show (192 : Int) = ((192 : Nat) : Int) from rfl, e, e2]; omega
theorem i32_and31 (x : Int) (h0 : 0 <= x) (h1 : x < 2147483648) : bits .and .i32 x 31 = x % 32 := bits_mask .i32 31 (by decide) wraps_i32 5 (by decide) x h0 h1
theorem i32_and15 (x : Int) (h0 : 0 <= x) (h1 : x < 2147483648) : bits .and .i32 x 15 = x % 16 := bits_mask .i32 31 (by decide) wraps_i32 4 (by decide) x h0 h1
theorem i32_and7 (x : Int) (h0 : 0 <= x) (h1 : x < 2147483648) : bits .and .i32 x 7 = x % 8 := bits_mask .i32 31 (by decide) wraps_i32 3 (by decide) x h0 h1

theorem f47_1_yes (s : ByteArray) (w : World) (hG : Rng w) (hs : s.size <= maxLen) (c : Nat) (hr : Ch.raw (bts s) = some (c, 1)) (hv : Ch.valid c = true) (hk : Ch.lenN c = 1) :
  Calls Tryz.prog 92 #[.string s] w fun e w' => e = .returned (.tuple #[.int .i32 c, .int .i64 1]) /\ Below w.heap.size w w' := by
 have hcm := valid_nat hv
 obtain ⟨hlen, h1, hc⟩ := Ch.raw_1 hr
 rw [bts_length] at hlen
 have h1' : gb s 0 < 128 := h1
 have hc' : c = gb s 0 := hc
 have hl0 : 0 < s.size := by omega
 have e0 := byte_eq hl0
 have u0 : (s[0]'hl0).toNat < 128 := by omega
 obtain rfl : c = (s[0]'hl0).toNat := by omega
 clear h1 h1' hc e0 hc' hlen
 have Hv : Hid _ := Lib.hid hv
 have HK : ((Ch.lenN (s[0]'hl0).toNat : Int) != 1) = false := by rw [hk]; rfl
 clear hk
 clear hv hr
 unfold maxLen at hs
 go_enter Tryz.func92, Tryz.ntmps92
 go_wp2
 go_quiet (fail)
 go_wp2
 refine wp_loop_rounds 1 ?_
 iterate 1 (rw [rounds_succ]; go_wp2_with (first | (go_at_call 115; refine (f8_any _ _ (hG.drewN _)).mono ?_; rintro e w1 ⟨rfl, hb⟩; rw [Hv.out]) | (go_at_call 116; refine (f45_nil _ hcm _).mono ?_; rintro e w2 ⟨⟨g, cap, rfl, hown⟩, hb2⟩)))
 go_ret2
 go_light
 exact ⟨rfl, (below_of_drewN hb).trans (hb2.mono (below_of_drewN hb).size)⟩

theorem f47_1_not (s : ByteArray) (w : World) (hG : Rng w) (hs : s.size <= maxLen) (c : Nat) (hr : Ch.raw (bts s) = some (c, 1)) (hv : Ch.valid c = false) :
  Calls Tryz.prog 92 #[.string s] w fun e w' => e = .returned (.tuple #[.int .i32 0, .int .i64 0]) /\ Below w.heap.size w w' := by
 obtain ⟨hlen, h1, hc⟩ := Ch.raw_1 hr
 rw [bts_length] at hlen
 have h1' : gb s 0 < 128 := h1
 have hc' : c = gb s 0 := hc
 have hl0 : 0 < s.size := by omega
 have e0 := byte_eq hl0
 have u0 : (s[0]'hl0).toNat < 128 := by omega
 obtain rfl : c = (s[0]'hl0).toNat := by omega
 clear h1 h1' hc e0 hc' hlen
 have Hv : Hid _ := Lib.hid hv
 clear hv hr
 unfold maxLen at hs
 go_enter Tryz.func92, Tryz.ntmps92
 go_wp2
 go_quiet (fail)
 go_wp2
 refine wp_loop_rounds 1 ?_
 iterate 1 (rw [rounds_succ]; go_wp2_with (first | (go_at_call 115; refine (f8_any _ _ (hG.drewN _)).mono ?_; rintro e w1 ⟨rfl, hb⟩; rw [Hv.out])))
 go_ret2
 go_light
 exact ⟨rfl, below_of_drewN hb⟩

theorem f47_2_yes (s : ByteArray) (w : World) (hG : Rng w) (hs : s.size <= maxLen) (c : Nat) (hr : Ch.raw (bts s) = some (c, 2)) (hv : Ch.valid c = true) (hk : Ch.lenN c = 2) :
  Calls Tryz.prog 92 #[.string s] w fun e w' => e = .returned (.tuple #[.int .i32 c, .int .i64 2]) /\ Below w.heap.size w w' := by
 have hcm := valid_nat hv
 obtain ⟨hlen, h1, h2, ht', hc⟩ := Ch.raw_2 hr
 rw [bts_length] at hlen
 have h1' : 192 <= gb s 0 := h1
 have h2' : gb s 0 < 224 := h2
 have ht : 128 <= gb s 1 /\ gb s 1 < 192 := ht'
 have hc' : c = (gb s 0 - 192) * 64 + (gb s 1 - 128) := hc
 have hl0 : 0 < s.size := by omega
 have e0 := byte_eq hl0
 have t0 : 192 <= (s[0]'hl0).toNat := by omega
 have u0 : (s[0]'hl0).toNat < 224 := by omega
 have m0 := i32_and31 ((s[0]'hl0).toNat : Int) (by omega) (by omega)
 have hl1 : 1 < s.size := by omega
 have b1 : (s[1]'hl1).toNat < 256 := (s[1]'hl1).toNat_lt
 have m1 := u8_and63 ((s[1]'hl1).toNat : Int) (by omega) (by omega)
 have a1 : bits .and .u8 ((s[1]'hl1).toNat : Int) 192 = 128 := by rw [u8_and192 _ b1]; have := byte_eq hl1; omega
 have o1 := i32_or6 ((((s[0]'hl0).toNat : Int) % (32 : Int)) * 64) (((s[1]'hl1).toNat : Int) % 64) (by omega) (by omega) (by omega) (by omega) (by omega)
 have hc'' : ((((s[0]'hl0).toNat : Int) % (32 : Int)) * (64 : Int) + ((s[1]'hl1).toNat : Int) % (64 : Int) : Int) = (c : Int) := by have := byte_eq hl1; omega
 have C0 : Hid _ := Lib.hid hc''
 clear e0 hc hc' hc'' h1 h2 ht' h1' h2' ht
 have Hv : Hid _ := Lib.hid hv
 have HK : ((Ch.lenN c : Int) != 2) = false := by rw [hk]; rfl
 clear hk
 clear hv hr
 unfold maxLen at hs
 go_enter Tryz.func92, Tryz.ntmps92
 go_wp2
 go_quiet (fail)
 go_wp2
 refine wp_loop_rounds 2 ?_
 iterate 2 (rw [rounds_succ]; go_wp2_with (first | (go_at_call 115; refine (f8_any _ _ (hG.drewN _)).mono ?_; rintro e w1 ⟨rfl, hb⟩; rw [C0.out, Hv.out]) | (go_at_call 116; refine (f45_nil _ hcm _).mono ?_; rintro e w2 ⟨⟨g, cap, rfl, hown⟩, hb2⟩)))
 go_ret2
 go_light
 exact ⟨rfl, (below_of_drewN hb).trans (hb2.mono (below_of_drewN hb).size)⟩

theorem f47_2_long (s : ByteArray) (w : World) (hG : Rng w) (hs : s.size <= maxLen) (c : Nat) (hr : Ch.raw (bts s) = some (c, 2)) (hv : Ch.valid c = true) (hk : Ch.lenN c ≠ 2) :
  Calls Tryz.prog 92 #[.string s] w fun e w' => e = .returned (.tuple #[.int .i32 0, .int .i64 0]) /\ Below w.heap.size w w' := by
 have hcm := valid_nat hv
 obtain ⟨hlen, h1, h2, ht', hc⟩ := Ch.raw_2 hr
 rw [bts_length] at hlen
 have h1' : 192 <= gb s 0 := h1
 have h2' : gb s 0 < 224 := h2
 have ht : 128 <= gb s 1 /\ gb s 1 < 192 := ht'
 have hc' : c = (gb s 0 - 192) * 64 + (gb s 1 - 128) := hc
 have hl0 : 0 < s.size := by omega
 have e0 := byte_eq hl0
 have t0 : 192 <= (s[0]'hl0).toNat := by omega
 have u0 : (s[0]'hl0).toNat < 224 := by omega
 have m0 := i32_and31 ((s[0]'hl0).toNat : Int) (by omega) (by omega)
 have hl1 : 1 < s.size := by omega
 have b1 : (s[1]'hl1).toNat < 256 := (s[1]'hl1).toNat_lt
 have m1 := u8_and63 ((s[1]'hl1).toNat : Int) (by omega) (by omega)
 have a1 : bits .and .u8 ((s[1]'hl1).toNat : Int) 192 = 128 := by rw [u8_and192 _ b1]; have := byte_eq hl1; omega
 have o1 := i32_or6 ((((s[0]'hl0).toNat : Int) % (32 : Int)) * 64) (((s[1]'hl1).toNat : Int) % 64) (by omega) (by omega) (by omega) (by omega) (by omega)
 have hc'' : ((((s[0]'hl0).toNat : Int) % (32 : Int)) * (64 : Int) + ((s[1]'hl1).toNat : Int) % (64 : Int) : Int) = (c : Int) := by have := byte_eq hl1; omega
 have C0 : Hid _ := Lib.hid hc''
 clear e0 hc hc' hc'' h1 h2 ht' h1' h2' ht
 have Hv : Hid _ := Lib.hid hv
 have HK : ((Ch.lenN c : Int) != 2) = true := by rw [bne_iff_ne]; omega
 clear hk
 clear hv hr
 unfold maxLen at hs
 go_enter Tryz.func92, Tryz.ntmps92
 go_wp2
 go_quiet (fail)
 go_wp2
 refine wp_loop_rounds 2 ?_
 iterate 2 (rw [rounds_succ]; go_wp2_with (first | (go_at_call 115; refine (f8_any _ _ (hG.drewN _)).mono ?_; rintro e w1 ⟨rfl, hb⟩; rw [C0.out, Hv.out]) | (go_at_call 116; refine (f45_nil _ hcm _).mono ?_; rintro e w2 ⟨⟨g, cap, rfl, hown⟩, hb2⟩)))
 go_ret2
 go_light
 exact ⟨rfl, (below_of_drewN hb).trans (hb2.mono (below_of_drewN hb).size)⟩

theorem f47_2_not (s : ByteArray) (w : World) (hG : Rng w) (hs : s.size <= maxLen) (c : Nat) (hr : Ch.raw (bts s) = some (c, 2)) (hv : Ch.valid c = false) :
  Calls Tryz.prog 92 #[.string s] w fun e w' => e = .returned (.tuple #[.int .i32 0, .int .i64 0]) /\ Below w.heap.size w w' := by
 obtain ⟨hlen, h1, h2, ht', hc⟩ := Ch.raw_2 hr
 rw [bts_length] at hlen
 have h1' : 192 <= gb s 0 := h1
 have h2' : gb s 0 < 224 := h2
 have ht : 128 <= gb s 1 /\ gb s 1 < 192 := ht'
 have hc' : c = (gb s 0 - 192) * 64 + (gb s 1 - 128) := hc
 have hl0 : 0 < s.size := by omega
 have e0 := byte_eq hl0
 have t0 : 192 <= (s[0]'hl0).toNat := by omega
 have u0 : (s[0]'hl0).toNat < 224 := by omega
 have m0 := i32_and31 ((s[0]'hl0).toNat : Int) (by omega) (by omega)
 have hl1 : 1 < s.size := by omega
 have b1 : (s[1]'hl1).toNat < 256 := (s[1]'hl1).toNat_lt
 have m1 := u8_and63 ((s[1]'hl1).toNat : Int) (by omega) (by omega)
 have a1 : bits .and .u8 ((s[1]'hl1).toNat : Int) 192 = 128 := by rw [u8_and192 _ b1]; have := byte_eq hl1; omega
 have o1 := i32_or6 ((((s[0]'hl0).toNat : Int) % (32 : Int)) * 64) (((s[1]'hl1).toNat : Int) % 64) (by omega) (by omega) (by omega) (by omega) (by omega)
 have hc'' : ((((s[0]'hl0).toNat : Int) % (32 : Int)) * (64 : Int) + ((s[1]'hl1).toNat : Int) % (64 : Int) : Int) = (c : Int) := by have := byte_eq hl1; omega
 have C0 : Hid _ := Lib.hid hc''
 clear e0 hc hc' hc'' h1 h2 ht' h1' h2' ht
 have Hv : Hid _ := Lib.hid hv
 clear hv hr
 unfold maxLen at hs
 go_enter Tryz.func92, Tryz.ntmps92
 go_wp2
 go_quiet (fail)
 go_wp2
 refine wp_loop_rounds 2 ?_
 iterate 2 (rw [rounds_succ]; go_wp2_with (first | (go_at_call 115; refine (f8_any _ _ (hG.drewN _)).mono ?_; rintro e w1 ⟨rfl, hb⟩; rw [C0.out, Hv.out])))
 go_ret2
 go_light
 exact ⟨rfl, below_of_drewN hb⟩

theorem f47_3_yes (s : ByteArray) (w : World) (hG : Rng w) (hs : s.size <= maxLen) (c : Nat) (hr : Ch.raw (bts s) = some (c, 3)) (hv : Ch.valid c = true) (hk : Ch.lenN c = 3) :
  Calls Tryz.prog 92 #[.string s] w fun e w' => e = .returned (.tuple #[.int .i32 c, .int .i64 3]) /\ Below w.heap.size w w' := by
 have hcm := valid_nat hv
 obtain ⟨hlen, h1, h2, ht', hc⟩ := Ch.raw_3 hr
 rw [bts_length] at hlen
 have h1' : 224 <= gb s 0 := h1
 have h2' : gb s 0 < 240 := h2
 have ht : 128 <= gb s 1 /\ gb s 1 < 192 /\ 128 <= gb s 2 /\ gb s 2 < 192 := ht'
 have hc' : c = ((gb s 0 - 224) * 64 + (gb s 1 - 128)) * 64 + (gb s 2 - 128) := hc
 have hl0 : 0 < s.size := by omega
 have e0 := byte_eq hl0
 have t0 : 224 <= (s[0]'hl0).toNat := by omega
 have u0 : (s[0]'hl0).toNat < 240 := by omega
 have m0 := i32_and15 ((s[0]'hl0).toNat : Int) (by omega) (by omega)
 have hl1 : 1 < s.size := by omega
 have b1 : (s[1]'hl1).toNat < 256 := (s[1]'hl1).toNat_lt
 have m1 := u8_and63 ((s[1]'hl1).toNat : Int) (by omega) (by omega)
 have a1 : bits .and .u8 ((s[1]'hl1).toNat : Int) 192 = 128 := by rw [u8_and192 _ b1]; have := byte_eq hl1; omega
 have o1 := i32_or6 ((((s[0]'hl0).toNat : Int) % (16 : Int)) * 64) (((s[1]'hl1).toNat : Int) % 64) (by omega) (by omega) (by omega) (by omega) (by omega)
 have hl2 : 2 < s.size := by omega
 have b2 : (s[2]'hl2).toNat < 256 := (s[2]'hl2).toNat_lt
 have m2 := u8_and63 ((s[2]'hl2).toNat : Int) (by omega) (by omega)
 have a2 : bits .and .u8 ((s[2]'hl2).toNat : Int) 192 = 128 := by rw [u8_and192 _ b2]; have := byte_eq hl2; omega
 have o2 := i32_or6 (((((s[0]'hl0).toNat : Int) % (16 : Int)) * (64 : Int) + ((s[1]'hl1).toNat : Int) % (64 : Int)) * 64) (((s[2]'hl2).toNat : Int) % 64) (by omega) (by omega) (by omega) (by omega) (by omega)
 have hc'' : (((((s[0]'hl0).toNat : Int) % (16 : Int)) * (64 : Int) + ((s[1]'hl1).toNat : Int) % (64 : Int)) * (64 : Int) + ((s[2]'hl2).toNat : Int) % (64 : Int) : Int) = (c : Int) := by have := byte_eq hl1; have := byte_eq hl2; omega
 have C0 : Hid _ := Lib.hid hc''
 clear e0 hc hc' hc'' h1 h2 ht' h1' h2' ht
 have Hv : Hid _ := Lib.hid hv
 have HK : ((Ch.lenN c : Int) != 3) = false := by rw [hk]; rfl
 clear hk
 clear hv hr
 unfold maxLen at hs
 go_enter Tryz.func92, Tryz.ntmps92
 go_wp2
 go_quiet (fail)
 go_wp2
 refine wp_loop_rounds 3 ?_
 iterate 3 (rw [rounds_succ]; go_wp2_with (first | (go_at_call 115; refine (f8_any _ _ (hG.drewN _)).mono ?_; rintro e w1 ⟨rfl, hb⟩; rw [C0.out, Hv.out]) | (go_at_call 116; refine (f45_nil _ hcm _).mono ?_; rintro e w2 ⟨⟨g, cap, rfl, hown⟩, hb2⟩)))
 go_ret2
 go_light
 exact ⟨rfl, (below_of_drewN hb).trans (hb2.mono (below_of_drewN hb).size)⟩

theorem f47_3_long (s : ByteArray) (w : World) (hG : Rng w) (hs : s.size <= maxLen) (c : Nat) (hr : Ch.raw (bts s) = some (c, 3)) (hv : Ch.valid c = true) (hk : Ch.lenN c ≠ 3) :
  Calls Tryz.prog 92 #[.string s] w fun e w' => e = .returned (.tuple #[.int .i32 0, .int .i64 0]) /\ Below w.heap.size w w' := by
 have hcm := valid_nat hv
 obtain ⟨hlen, h1, h2, ht', hc⟩ := Ch.raw_3 hr
 rw [bts_length] at hlen
 have h1' : 224 <= gb s 0 := h1
 have h2' : gb s 0 < 240 := h2
 have ht : 128 <= gb s 1 /\ gb s 1 < 192 /\ 128 <= gb s 2 /\ gb s 2 < 192 := ht'
 have hc' : c = ((gb s 0 - 224) * 64 + (gb s 1 - 128)) * 64 + (gb s 2 - 128) := hc
 have hl0 : 0 < s.size := by omega
 have e0 := byte_eq hl0
 have t0 : 224 <= (s[0]'hl0).toNat := by omega
 have u0 : (s[0]'hl0).toNat < 240 := by omega
 have m0 := i32_and15 ((s[0]'hl0).toNat : Int) (by omega) (by omega)
 have hl1 : 1 < s.size := by omega
 have b1 : (s[1]'hl1).toNat < 256 := (s[1]'hl1).toNat_lt
 have m1 := u8_and63 ((s[1]'hl1).toNat : Int) (by omega) (by omega)
 have a1 : bits .and .u8 ((s[1]'hl1).toNat : Int) 192 = 128 := by rw [u8_and192 _ b1]; have := byte_eq hl1; omega
 have o1 := i32_or6 ((((s[0]'hl0).toNat : Int) % (16 : Int)) * 64) (((s[1]'hl1).toNat : Int) % 64) (by omega) (by omega) (by omega) (by omega) (by omega)
 have hl2 : 2 < s.size := by omega
 have b2 : (s[2]'hl2).toNat < 256 := (s[2]'hl2).toNat_lt
 have m2 := u8_and63 ((s[2]'hl2).toNat : Int) (by omega) (by omega)
 have a2 : bits .and .u8 ((s[2]'hl2).toNat : Int) 192 = 128 := by rw [u8_and192 _ b2]; have := byte_eq hl2; omega
 have o2 := i32_or6 (((((s[0]'hl0).toNat : Int) % (16 : Int)) * (64 : Int) + ((s[1]'hl1).toNat : Int) % (64 : Int)) * 64) (((s[2]'hl2).toNat : Int) % 64) (by omega) (by omega) (by omega) (by omega) (by omega)
 have hc'' : (((((s[0]'hl0).toNat : Int) % (16 : Int)) * (64 : Int) + ((s[1]'hl1).toNat : Int) % (64 : Int)) * (64 : Int) + ((s[2]'hl2).toNat : Int) % (64 : Int) : Int) = (c : Int) := by have := byte_eq hl1; have := byte_eq hl2; omega
 have C0 : Hid _ := Lib.hid hc''
 clear e0 hc hc' hc'' h1 h2 ht' h1' h2' ht
 have Hv : Hid _ := Lib.hid hv
 have HK : ((Ch.lenN c : Int) != 3) = true := by rw [bne_iff_ne]; omega
 clear hk
 clear hv hr
 unfold maxLen at hs
 go_enter Tryz.func92, Tryz.ntmps92
 go_wp2
 go_quiet (fail)
 go_wp2
 refine wp_loop_rounds 3 ?_
 iterate 3 (rw [rounds_succ]; go_wp2_with (first | (go_at_call 115; refine (f8_any _ _ (hG.drewN _)).mono ?_; rintro e w1 ⟨rfl, hb⟩; rw [C0.out, Hv.out]) | (go_at_call 116; refine (f45_nil _ hcm _).mono ?_; rintro e w2 ⟨⟨g, cap, rfl, hown⟩, hb2⟩)))
 go_ret2
 go_light
 exact ⟨rfl, (below_of_drewN hb).trans (hb2.mono (below_of_drewN hb).size)⟩

theorem f47_3_not (s : ByteArray) (w : World) (hG : Rng w) (hs : s.size <= maxLen) (c : Nat) (hr : Ch.raw (bts s) = some (c, 3)) (hv : Ch.valid c = false) :
  Calls Tryz.prog 92 #[.string s] w fun e w' => e = .returned (.tuple #[.int .i32 0, .int .i64 0]) /\ Below w.heap.size w w' := by
 obtain ⟨hlen, h1, h2, ht', hc⟩ := Ch.raw_3 hr
 rw [bts_length] at hlen
 have h1' : 224 <= gb s 0 := h1
 have h2' : gb s 0 < 240 := h2
 have ht : 128 <= gb s 1 /\ gb s 1 < 192 /\ 128 <= gb s 2 /\ gb s 2 < 192 := ht'
 have hc' : c = ((gb s 0 - 224) * 64 + (gb s 1 - 128)) * 64 + (gb s 2 - 128) := hc
 have hl0 : 0 < s.size := by omega
 have e0 := byte_eq hl0
 have t0 : 224 <= (s[0]'hl0).toNat := by omega
 have u0 : (s[0]'hl0).toNat < 240 := by omega
 have m0 := i32_and15 ((s[0]'hl0).toNat : Int) (by omega) (by omega)
 have hl1 : 1 < s.size := by omega
 have b1 : (s[1]'hl1).toNat < 256 := (s[1]'hl1).toNat_lt
 have m1 := u8_and63 ((s[1]'hl1).toNat : Int) (by omega) (by omega)
 have a1 : bits .and .u8 ((s[1]'hl1).toNat : Int) 192 = 128 := by rw [u8_and192 _ b1]; have := byte_eq hl1; omega
 have o1 := i32_or6 ((((s[0]'hl0).toNat : Int) % (16 : Int)) * 64) (((s[1]'hl1).toNat : Int) % 64) (by omega) (by omega) (by omega) (by omega) (by omega)
 have hl2 : 2 < s.size := by omega
 have b2 : (s[2]'hl2).toNat < 256 := (s[2]'hl2).toNat_lt
 have m2 := u8_and63 ((s[2]'hl2).toNat : Int) (by omega) (by omega)
 have a2 : bits .and .u8 ((s[2]'hl2).toNat : Int) 192 = 128 := by rw [u8_and192 _ b2]; have := byte_eq hl2; omega
 have o2 := i32_or6 (((((s[0]'hl0).toNat : Int) % (16 : Int)) * (64 : Int) + ((s[1]'hl1).toNat : Int) % (64 : Int)) * 64) (((s[2]'hl2).toNat : Int) % 64) (by omega) (by omega) (by omega) (by omega) (by omega)
 have hc'' : (((((s[0]'hl0).toNat : Int) % (16 : Int)) * (64 : Int) + ((s[1]'hl1).toNat : Int) % (64 : Int)) * (64 : Int) + ((s[2]'hl2).toNat : Int) % (64 : Int) : Int) = (c : Int) := by have := byte_eq hl1; have := byte_eq hl2; omega
 have C0 : Hid _ := Lib.hid hc''
 clear e0 hc hc' hc'' h1 h2 ht' h1' h2' ht
 have Hv : Hid _ := Lib.hid hv
 clear hv hr
 unfold maxLen at hs
 go_enter Tryz.func92, Tryz.ntmps92
 go_wp2
 go_quiet (fail)
 go_wp2
 refine wp_loop_rounds 3 ?_
 iterate 3 (rw [rounds_succ]; go_wp2_with (first | (go_at_call 115; refine (f8_any _ _ (hG.drewN _)).mono ?_; rintro e w1 ⟨rfl, hb⟩; rw [C0.out, Hv.out])))
 go_ret2
 go_light
 exact ⟨rfl, below_of_drewN hb⟩

theorem f47_4_yes (s : ByteArray) (w : World) (hG : Rng w) (hs : s.size <= maxLen) (c : Nat) (hr : Ch.raw (bts s) = some (c, 4)) (hv : Ch.valid c = true) (hk : Ch.lenN c = 4) :
  Calls Tryz.prog 92 #[.string s] w fun e w' => e = .returned (.tuple #[.int .i32 c, .int .i64 4]) /\ Below w.heap.size w w' := by
 have hcm := valid_nat hv
 obtain ⟨hlen, h1, h2, ht', hc⟩ := Ch.raw_4 hr
 rw [bts_length] at hlen
 have h1' : 240 <= gb s 0 := h1
 have h2' : gb s 0 < 248 := h2
 have ht : 128 <= gb s 1 /\ gb s 1 < 192 /\ 128 <= gb s 2 /\ gb s 2 < 192 /\ 128 <= gb s 3 /\ gb s 3 < 192 := ht'
 have hc' : c = (((gb s 0 - 240) * 64 + (gb s 1 - 128)) * 64 + (gb s 2 - 128)) * 64 + (gb s 3 - 128) := hc
 have hl0 : 0 < s.size := by omega
 have e0 := byte_eq hl0
 have t0 : 240 <= (s[0]'hl0).toNat := by omega
 have u0 : (s[0]'hl0).toNat < 248 := by omega
 have m0 := i32_and7 ((s[0]'hl0).toNat : Int) (by omega) (by omega)
 have hl1 : 1 < s.size := by omega
 have b1 : (s[1]'hl1).toNat < 256 := (s[1]'hl1).toNat_lt
 have m1 := u8_and63 ((s[1]'hl1).toNat : Int) (by omega) (by omega)
 have a1 : bits .and .u8 ((s[1]'hl1).toNat : Int) 192 = 128 := by rw [u8_and192 _ b1]; have := byte_eq hl1; omega
 have o1 := i32_or6 ((((s[0]'hl0).toNat : Int) % (8 : Int)) * 64) (((s[1]'hl1).toNat : Int) % 64) (by omega) (by omega) (by omega) (by omega) (by omega)
 have hl2 : 2 < s.size := by omega
 have b2 : (s[2]'hl2).toNat < 256 := (s[2]'hl2).toNat_lt
 have m2 := u8_and63 ((s[2]'hl2).toNat : Int) (by omega) (by omega)
 have a2 : bits .and .u8 ((s[2]'hl2).toNat : Int) 192 = 128 := by rw [u8_and192 _ b2]; have := byte_eq hl2; omega
 have o2 := i32_or6 (((((s[0]'hl0).toNat : Int) % (8 : Int)) * (64 : Int) + ((s[1]'hl1).toNat : Int) % (64 : Int)) * 64) (((s[2]'hl2).toNat : Int) % 64) (by omega) (by omega) (by omega) (by omega) (by omega)
 have hl3 : 3 < s.size := by omega
 have b3 : (s[3]'hl3).toNat < 256 := (s[3]'hl3).toNat_lt
 have m3 := u8_and63 ((s[3]'hl3).toNat : Int) (by omega) (by omega)
 have a3 : bits .and .u8 ((s[3]'hl3).toNat : Int) 192 = 128 := by rw [u8_and192 _ b3]; have := byte_eq hl3; omega
 have o3 := i32_or6 ((((((s[0]'hl0).toNat : Int) % (8 : Int)) * (64 : Int) + ((s[1]'hl1).toNat : Int) % (64 : Int)) * (64 : Int) + ((s[2]'hl2).toNat : Int) % (64 : Int)) * 64) (((s[3]'hl3).toNat : Int) % 64) (by omega) (by omega) (by omega) (by omega) (by omega)
 have hc'' : ((((((s[0]'hl0).toNat : Int) % (8 : Int)) * (64 : Int) + ((s[1]'hl1).toNat : Int) % (64 : Int)) * (64 : Int) + ((s[2]'hl2).toNat : Int) % (64 : Int)) * (64 : Int) + ((s[3]'hl3).toNat : Int) % (64 : Int) : Int) = (c : Int) := by have := byte_eq hl1; have := byte_eq hl2; have := byte_eq hl3; omega
 have C0 : Hid _ := Lib.hid hc''
 clear e0 hc hc' hc'' h1 h2 ht' h1' h2' ht
 have Hv : Hid _ := Lib.hid hv
 have HK : ((Ch.lenN c : Int) != 4) = false := by rw [hk]; rfl
 clear hk
 clear hv hr
 unfold maxLen at hs
 go_enter Tryz.func92, Tryz.ntmps92
 go_wp2
 go_quiet (fail)
 go_wp2
 refine wp_loop_rounds 4 ?_
 iterate 4 (rw [rounds_succ]; go_wp2_with (first | (go_at_call 115; refine (f8_any _ _ (hG.drewN _)).mono ?_; rintro e w1 ⟨rfl, hb⟩; rw [C0.out, Hv.out]) | (go_at_call 116; refine (f45_nil _ hcm _).mono ?_; rintro e w2 ⟨⟨g, cap, rfl, hown⟩, hb2⟩)))
 go_ret2
 go_light
 exact ⟨rfl, (below_of_drewN hb).trans (hb2.mono (below_of_drewN hb).size)⟩

theorem f47_4_long (s : ByteArray) (w : World) (hG : Rng w) (hs : s.size <= maxLen) (c : Nat) (hr : Ch.raw (bts s) = some (c, 4)) (hv : Ch.valid c = true) (hk : Ch.lenN c ≠ 4) :
  Calls Tryz.prog 92 #[.string s] w fun e w' => e = .returned (.tuple #[.int .i32 0, .int .i64 0]) /\ Below w.heap.size w w' := by
 have hcm := valid_nat hv
 obtain ⟨hlen, h1, h2, ht', hc⟩ := Ch.raw_4 hr
 rw [bts_length] at hlen
 have h1' : 240 <= gb s 0 := h1
 have h2' : gb s 0 < 248 := h2
 have ht : 128 <= gb s 1 /\ gb s 1 < 192 /\ 128 <= gb s 2 /\ gb s 2 < 192 /\ 128 <= gb s 3 /\ gb s 3 < 192 := ht'
 have hc' : c = (((gb s 0 - 240) * 64 + (gb s 1 - 128)) * 64 + (gb s 2 - 128)) * 64 + (gb s 3 - 128) := hc
 have hl0 : 0 < s.size := by omega
 have e0 := byte_eq hl0
 have t0 : 240 <= (s[0]'hl0).toNat := by omega
 have u0 : (s[0]'hl0).toNat < 248 := by omega
 have m0 := i32_and7 ((s[0]'hl0).toNat : Int) (by omega) (by omega)
 have hl1 : 1 < s.size := by omega
 have b1 : (s[1]'hl1).toNat < 256 := (s[1]'hl1).toNat_lt
 have m1 := u8_and63 ((s[1]'hl1).toNat : Int) (by omega) (by omega)
 have a1 : bits .and .u8 ((s[1]'hl1).toNat : Int) 192 = 128 := by rw [u8_and192 _ b1]; have := byte_eq hl1; omega
 have o1 := i32_or6 ((((s[0]'hl0).toNat : Int) % (8 : Int)) * 64) (((s[1]'hl1).toNat : Int) % 64) (by omega) (by omega) (by omega) (by omega) (by omega)
 have hl2 : 2 < s.size := by omega
 have b2 : (s[2]'hl2).toNat < 256 := (s[2]'hl2).toNat_lt
 have m2 := u8_and63 ((s[2]'hl2).toNat : Int) (by omega) (by omega)
 have a2 : bits .and .u8 ((s[2]'hl2).toNat : Int) 192 = 128 := by rw [u8_and192 _ b2]; have := byte_eq hl2; omega
 have o2 := i32_or6 (((((s[0]'hl0).toNat : Int) % (8 : Int)) * (64 : Int) + ((s[1]'hl1).toNat : Int) % (64 : Int)) * 64) (((s[2]'hl2).toNat : Int) % 64) (by omega) (by omega) (by omega) (by omega) (by omega)
 have hl3 : 3 < s.size := by omega
 have b3 : (s[3]'hl3).toNat < 256 := (s[3]'hl3).toNat_lt
 have m3 := u8_and63 ((s[3]'hl3).toNat : Int) (by omega) (by omega)
 have a3 : bits .and .u8 ((s[3]'hl3).toNat : Int) 192 = 128 := by rw [u8_and192 _ b3]; have := byte_eq hl3; omega
 have o3 := i32_or6 ((((((s[0]'hl0).toNat : Int) % (8 : Int)) * (64 : Int) + ((s[1]'hl1).toNat : Int) % (64 : Int)) * (64 : Int) + ((s[2]'hl2).toNat : Int) % (64 : Int)) * 64) (((s[3]'hl3).toNat : Int) % 64) (by omega) (by omega) (by omega) (by omega) (by omega)
 have hc'' : ((((((s[0]'hl0).toNat : Int) % (8 : Int)) * (64 : Int) + ((s[1]'hl1).toNat : Int) % (64 : Int)) * (64 : Int) + ((s[2]'hl2).toNat : Int) % (64 : Int)) * (64 : Int) + ((s[3]'hl3).toNat : Int) % (64 : Int) : Int) = (c : Int) := by have := byte_eq hl1; have := byte_eq hl2; have := byte_eq hl3; omega
 have C0 : Hid _ := Lib.hid hc''
 clear e0 hc hc' hc'' h1 h2 ht' h1' h2' ht
 have Hv : Hid _ := Lib.hid hv
 have HK : ((Ch.lenN c : Int) != 4) = true := by rw [bne_iff_ne]; omega
 clear hk
 clear hv hr
 unfold maxLen at hs
 go_enter Tryz.func92, Tryz.ntmps92
 go_wp2
 go_quiet (fail)
 go_wp2
 refine wp_loop_rounds 4 ?_
 iterate 4 (rw [rounds_succ]; go_wp2_with (first | (go_at_call 115; refine (f8_any _ _ (hG.drewN _)).mono ?_; rintro e w1 ⟨rfl, hb⟩; rw [C0.out, Hv.out]) | (go_at_call 116; refine (f45_nil _ hcm _).mono ?_; rintro e w2 ⟨⟨g, cap, rfl, hown⟩, hb2⟩)))
 go_ret2
 go_light
 exact ⟨rfl, (below_of_drewN hb).trans (hb2.mono (below_of_drewN hb).size)⟩

theorem f47_4_not (s : ByteArray) (w : World) (hG : Rng w) (hs : s.size <= maxLen) (c : Nat) (hr : Ch.raw (bts s) = some (c, 4)) (hv : Ch.valid c = false) :
  Calls Tryz.prog 92 #[.string s] w fun e w' => e = .returned (.tuple #[.int .i32 0, .int .i64 0]) /\ Below w.heap.size w w' := by
 obtain ⟨hlen, h1, h2, ht', hc⟩ := Ch.raw_4 hr
 rw [bts_length] at hlen
 have h1' : 240 <= gb s 0 := h1
 have h2' : gb s 0 < 248 := h2
 have ht : 128 <= gb s 1 /\ gb s 1 < 192 /\ 128 <= gb s 2 /\ gb s 2 < 192 /\ 128 <= gb s 3 /\ gb s 3 < 192 := ht'
 have hc' : c = (((gb s 0 - 240) * 64 + (gb s 1 - 128)) * 64 + (gb s 2 - 128)) * 64 + (gb s 3 - 128) := hc
 have hl0 : 0 < s.size := by omega
 have e0 := byte_eq hl0
 have t0 : 240 <= (s[0]'hl0).toNat := by omega
 have u0 : (s[0]'hl0).toNat < 248 := by omega
 have m0 := i32_and7 ((s[0]'hl0).toNat : Int) (by omega) (by omega)
 have hl1 : 1 < s.size := by omega
 have b1 : (s[1]'hl1).toNat < 256 := (s[1]'hl1).toNat_lt
 have m1 := u8_and63 ((s[1]'hl1).toNat : Int) (by omega) (by omega)
 have a1 : bits .and .u8 ((s[1]'hl1).toNat : Int) 192 = 128 := by rw [u8_and192 _ b1]; have := byte_eq hl1; omega
 have o1 := i32_or6 ((((s[0]'hl0).toNat : Int) % (8 : Int)) * 64) (((s[1]'hl1).toNat : Int) % 64) (by omega) (by omega) (by omega) (by omega) (by omega)
 have hl2 : 2 < s.size := by omega
 have b2 : (s[2]'hl2).toNat < 256 := (s[2]'hl2).toNat_lt
 have m2 := u8_and63 ((s[2]'hl2).toNat : Int) (by omega) (by omega)
 have a2 : bits .and .u8 ((s[2]'hl2).toNat : Int) 192 = 128 := by rw [u8_and192 _ b2]; have := byte_eq hl2; omega
 have o2 := i32_or6 (((((s[0]'hl0).toNat : Int) % (8 : Int)) * (64 : Int) + ((s[1]'hl1).toNat : Int) % (64 : Int)) * 64) (((s[2]'hl2).toNat : Int) % 64) (by omega) (by omega) (by omega) (by omega) (by omega)
 have hl3 : 3 < s.size := by omega
 have b3 : (s[3]'hl3).toNat < 256 := (s[3]'hl3).toNat_lt
 have m3 := u8_and63 ((s[3]'hl3).toNat : Int) (by omega) (by omega)
 have a3 : bits .and .u8 ((s[3]'hl3).toNat : Int) 192 = 128 := by rw [u8_and192 _ b3]; have := byte_eq hl3; omega
 have o3 := i32_or6 ((((((s[0]'hl0).toNat : Int) % (8 : Int)) * (64 : Int) + ((s[1]'hl1).toNat : Int) % (64 : Int)) * (64 : Int) + ((s[2]'hl2).toNat : Int) % (64 : Int)) * 64) (((s[3]'hl3).toNat : Int) % 64) (by omega) (by omega) (by omega) (by omega) (by omega)
 have hc'' : ((((((s[0]'hl0).toNat : Int) % (8 : Int)) * (64 : Int) + ((s[1]'hl1).toNat : Int) % (64 : Int)) * (64 : Int) + ((s[2]'hl2).toNat : Int) % (64 : Int)) * (64 : Int) + ((s[3]'hl3).toNat : Int) % (64 : Int) : Int) = (c : Int) := by have := byte_eq hl1; have := byte_eq hl2; have := byte_eq hl3; omega
 have C0 : Hid _ := Lib.hid hc''
 clear e0 hc hc' hc'' h1 h2 ht' h1' h2' ht
 have Hv : Hid _ := Lib.hid hv
 clear hv hr
 unfold maxLen at hs
 go_enter Tryz.func92, Tryz.ntmps92
 go_wp2
 go_quiet (fail)
 go_wp2
 refine wp_loop_rounds 4 ?_
 iterate 4 (rw [rounds_succ]; go_wp2_with (first | (go_at_call 115; refine (f8_any _ _ (hG.drewN _)).mono ?_; rintro e w1 ⟨rfl, hb⟩; rw [C0.out, Hv.out])))
 go_ret2
 go_light
 exact ⟨rfl, below_of_drewN hb⟩

theorem f47_low (s : ByteArray) (w : World) (hl0 : 0 < s.size) (h1 : 128 <= gb s 0) (h2 : gb s 0 < 192) :
  Calls Tryz.prog 92 #[.string s] w fun e w' => e = .returned (.tuple #[.int .i32 0, .int .i64 0]) /\ Below w.heap.size w w' := by
 have e0 := byte_eq hl0
 have t0 : 128 <= (s[0]'hl0).toNat := by omega
 have u0 : (s[0]'hl0).toNat < 192 := by omega
 clear h2
 clear e0 h1
 go_enter Tryz.func92, Tryz.ntmps92
 go_wp2
 go_quiet (fail)
 go_wp2
 go_ret2
 go_light
 exact ⟨rfl, below_drewN (Below.refl _ _) _⟩

theorem f47_high (s : ByteArray) (w : World) (hl0 : 0 < s.size) (h1 : 248 <= gb s 0) :
  Calls Tryz.prog 92 #[.string s] w fun e w' => e = .returned (.tuple #[.int .i32 0, .int .i64 0]) /\ Below w.heap.size w w' := by
 have e0 := byte_eq hl0
 have t0 : 248 <= (s[0]'hl0).toNat := by omega
 have u0 : (s[0]'hl0).toNat < 256 := (s[0]'hl0).toNat_lt
 clear e0 h1
 go_enter Tryz.func92, Tryz.ntmps92
 go_wp2
 go_quiet (fail)
 go_wp2
 go_ret2
 go_light
 exact ⟨rfl, below_drewN (Below.refl _ _) _⟩

theorem f47_2_no (s : ByteArray) (w : World) (hs : s.size <= maxLen) (hl0 : 0 < s.size) (h1 : 192 <= gb s 0) (h2 : gb s 0 < 224) (hno : ¬ (2 <= s.size /\ 128 <= gb s 1 /\ gb s 1 < 192)) :
  Calls Tryz.prog 92 #[.string s] w fun e w' => e = .returned (.tuple #[.int .i32 0, .int .i64 0]) /\ Below w.heap.size w w' := by
 have e0 := byte_eq hl0
 have t0 : 192 <= (s[0]'hl0).toNat := by omega
 have u0 : (s[0]'hl0).toNat < 224 := by omega
 have HN : Hid _ := Lib.hid hno
 clear e0 h1 h2 hno
 unfold maxLen at hs
 by_cases hlen : 2 <= s.size
 ·have hno := HN.out
  have m0 := i32_and31 ((s[0]'hl0).toNat : Int) (by omega) (by omega)
  have hl1 : 1 < s.size := by omega
  have b1 : (s[1]'hl1).toNat < 256 := (s[1]'hl1).toNat_lt
  have m1 := u8_and63 ((s[1]'hl1).toNat : Int) (by omega) (by omega)
  have a1 := u8_and192 _ b1
  have x1 : (((s[1]'hl1).toNat : Int) / 64 * 64 != 128) = true := by rw [bne_iff_ne]; have := byte_eq hl1; omega
  clear hno 
  go_enter Tryz.func92, Tryz.ntmps92
  go_wp2
  go_quiet (fail)
  go_wp2
  refine wp_loop_rounds 2 ?_
  iterate 1 (rw [rounds_succ]; go_wp2)
  go_ret2
  go_light
  exact ⟨rfl, below_drewN (Below.refl _ _) _⟩
 ·go_enter Tryz.func92, Tryz.ntmps92
  go_wp2
  go_quiet (fail)
  go_wp2
  go_ret2
  go_light
  exact ⟨rfl, below_drewN (Below.refl _ _) _⟩

theorem f47_3_no (s : ByteArray) (w : World) (hs : s.size <= maxLen) (hl0 : 0 < s.size) (h1 : 224 <= gb s 0) (h2 : gb s 0 < 240) (hno : ¬ (3 <= s.size /\ 128 <= gb s 1 /\ gb s 1 < 192 /\ 128 <= gb s 2 /\ gb s 2 < 192)) :
  Calls Tryz.prog 92 #[.string s] w fun e w' => e = .returned (.tuple #[.int .i32 0, .int .i64 0]) /\ Below w.heap.size w w' := by
 have e0 := byte_eq hl0
 have t0 : 224 <= (s[0]'hl0).toNat := by omega
 have u0 : (s[0]'hl0).toNat < 240 := by omega
 have HN : Hid _ := Lib.hid hno
 clear e0 h1 h2 hno
 unfold maxLen at hs
 by_cases hlen : 3 <= s.size
 ·have hno := HN.out
  have m0 := i32_and15 ((s[0]'hl0).toNat : Int) (by omega) (by omega)
  have hl1 : 1 < s.size := by omega
  have b1 : (s[1]'hl1).toNat < 256 := (s[1]'hl1).toNat_lt
  have m1 := u8_and63 ((s[1]'hl1).toNat : Int) (by omega) (by omega)
  have a1 := u8_and192 _ b1
  have o1 := i32_or6 ((((s[0]'hl0).toNat : Int) % (16 : Int)) * 64) (((s[1]'hl1).toNat : Int) % 64) (by omega) (by omega) (by omega) (by omega) (by omega)
  have hl2 : 2 < s.size := by omega
  have b2 : (s[2]'hl2).toNat < 256 := (s[2]'hl2).toNat_lt
  have m2 := u8_and63 ((s[2]'hl2).toNat : Int) (by omega) (by omega)
  have a2 := u8_and192 _ b2
  by_cases q1 : 128 <= gb s 1 /\ gb s 1 < 192
  ·have x1 : (((s[1]'hl1).toNat : Int) / 64 * 64 != 128) = false := by rw [bne_eq_false_iff_eq]; have := byte_eq hl1; omega
   have x2 : (((s[2]'hl2).toNat : Int) / 64 * 64 != 128) = true := by rw [bne_iff_ne]; have := byte_eq hl2; omega
   clear hno q1
   go_enter Tryz.func92, Tryz.ntmps92
   go_wp2
   go_quiet (fail)
   go_wp2
   refine wp_loop_rounds 3 ?_
   iterate 2 (rw [rounds_succ]; go_wp2)
   go_ret2
   go_light
   exact ⟨rfl, below_drewN (Below.refl _ _) _⟩
  ·have x1 : (((s[1]'hl1).toNat : Int) / 64 * 64 != 128) = true := by rw [bne_iff_ne]; have := byte_eq hl1; omega
   clear hno q1
   go_enter Tryz.func92, Tryz.ntmps92
   go_wp2
   go_quiet (fail)
   go_wp2
   refine wp_loop_rounds 3 ?_
   iterate 1 (rw [rounds_succ]; go_wp2)
   go_ret2
   go_light
   exact ⟨rfl, below_drewN (Below.refl _ _) _⟩
 ·go_enter Tryz.func92, Tryz.ntmps92
  go_wp2
  go_quiet (fail)
  go_wp2
  go_ret2
  go_light
  exact ⟨rfl, below_drewN (Below.refl _ _) _⟩

theorem f47_4_no (s : ByteArray) (w : World) (hs : s.size <= maxLen) (hl0 : 0 < s.size) (h1 : 240 <= gb s 0) (h2 : gb s 0 < 248) (hno : ¬ (4 <= s.size /\ 128 <= gb s 1 /\ gb s 1 < 192 /\ 128 <= gb s 2 /\ gb s 2 < 192 /\ 128 <= gb s 3 /\ gb s 3 < 192)) :
  Calls Tryz.prog 92 #[.string s] w fun e w' => e = .returned (.tuple #[.int .i32 0, .int .i64 0]) /\ Below w.heap.size w w' := by
 have e0 := byte_eq hl0
 have t0 : 240 <= (s[0]'hl0).toNat := by omega
 have u0 : (s[0]'hl0).toNat < 248 := by omega
 have HN : Hid _ := Lib.hid hno
 clear e0 h1 h2 hno
 unfold maxLen at hs
 by_cases hlen : 4 <= s.size
 ·have hno := HN.out
  have m0 := i32_and7 ((s[0]'hl0).toNat : Int) (by omega) (by omega)
  have hl1 : 1 < s.size := by omega
  have b1 : (s[1]'hl1).toNat < 256 := (s[1]'hl1).toNat_lt
  have m1 := u8_and63 ((s[1]'hl1).toNat : Int) (by omega) (by omega)
  have a1 := u8_and192 _ b1
  have o1 := i32_or6 ((((s[0]'hl0).toNat : Int) % (8 : Int)) * 64) (((s[1]'hl1).toNat : Int) % 64) (by omega) (by omega) (by omega) (by omega) (by omega)
  have hl2 : 2 < s.size := by omega
  have b2 : (s[2]'hl2).toNat < 256 := (s[2]'hl2).toNat_lt
  have m2 := u8_and63 ((s[2]'hl2).toNat : Int) (by omega) (by omega)
  have a2 := u8_and192 _ b2
  have o2 := i32_or6 (((((s[0]'hl0).toNat : Int) % (8 : Int)) * (64 : Int) + ((s[1]'hl1).toNat : Int) % (64 : Int)) * 64) (((s[2]'hl2).toNat : Int) % 64) (by omega) (by omega) (by omega) (by omega) (by omega)
  have hl3 : 3 < s.size := by omega
  have b3 : (s[3]'hl3).toNat < 256 := (s[3]'hl3).toNat_lt
  have m3 := u8_and63 ((s[3]'hl3).toNat : Int) (by omega) (by omega)
  have a3 := u8_and192 _ b3
  by_cases q1 : 128 <= gb s 1 /\ gb s 1 < 192
  ·have x1 : (((s[1]'hl1).toNat : Int) / 64 * 64 != 128) = false := by rw [bne_eq_false_iff_eq]; have := byte_eq hl1; omega
   by_cases q2 : 128 <= gb s 2 /\ gb s 2 < 192
   ·have x2 : (((s[2]'hl2).toNat : Int) / 64 * 64 != 128) = false := by rw [bne_eq_false_iff_eq]; have := byte_eq hl2; omega
    have x3 : (((s[3]'hl3).toNat : Int) / 64 * 64 != 128) = true := by rw [bne_iff_ne]; have := byte_eq hl3; omega
    clear hno q1 q2
    go_enter Tryz.func92, Tryz.ntmps92
    go_wp2
    go_quiet (fail)
    go_wp2
    refine wp_loop_rounds 4 ?_
    iterate 3 (rw [rounds_succ]; go_wp2)
    go_ret2
    go_light
    exact ⟨rfl, below_drewN (Below.refl _ _) _⟩
   ·have x2 : (((s[2]'hl2).toNat : Int) / 64 * 64 != 128) = true := by rw [bne_iff_ne]; have := byte_eq hl2; omega
    clear hno q2
    go_enter Tryz.func92, Tryz.ntmps92
    go_wp2
    go_quiet (fail)
    go_wp2
    refine wp_loop_rounds 4 ?_
    iterate 2 (rw [rounds_succ]; go_wp2)
    go_ret2
    go_light
    exact ⟨rfl, below_drewN (Below.refl _ _) _⟩
  ·have x1 : (((s[1]'hl1).toNat : Int) / 64 * 64 != 128) = true := by rw [bne_iff_ne]; have := byte_eq hl1; omega
   clear hno q1
   go_enter Tryz.func92, Tryz.ntmps92
   go_wp2
   go_quiet (fail)
   go_wp2
   refine wp_loop_rounds 4 ?_
   iterate 1 (rw [rounds_succ]; go_wp2)
   go_ret2
   go_light
   exact ⟨rfl, below_drewN (Below.refl _ _) _⟩
 ·go_enter Tryz.func92, Tryz.ntmps92
  go_wp2
  go_quiet (fail)
  go_wp2
  go_ret2
  go_light
  exact ⟨rfl, below_drewN (Below.refl _ _) _⟩

theorem f47_some (s : ByteArray) (w : World) (hG : Rng w) (hs : s.size <= maxLen) (c n : Nat) (hd : Ch.dec (bts s) = some (c, n)) :
  Calls Tryz.prog 92 #[.string s] w fun e w' => e = .returned (.tuple #[.int .i32 c, .int .i64 n]) /\ Below w.heap.size w w' := by
 obtain ⟨hr, hv, hn⟩ := Ch.dec_some hd
 obtain ⟨h1, h4, _⟩ := Ch.raw_le hr
 obtain rfl | rfl | rfl | rfl : n = 1 \/ n = 2 \/ n = 3 \/ n = 4 := by omega
 ·exact f47_1_yes s w hG hs c hr hv hn
 ·exact f47_2_yes s w hG hs c hr hv hn
 ·exact f47_3_yes s w hG hs c hr hv hn
 ·exact f47_4_yes s w hG hs c hr hv hn
theorem f47_none (s : ByteArray) (w : World) (hG : Rng w) (hs : s.size <= maxLen) (hl0 : 0 < s.size) (hd : Ch.dec (bts s) = none) :
  Calls Tryz.prog 92 #[.string s] w fun e w' => e = .returned (.tuple #[.int .i32 0, .int .i64 0]) /\ Below w.heap.size w w' := by
 cases hr : Ch.raw (bts s) with
 | none =>
  rcases Ch.raw_none hr with h0 | ⟨hl, ⟨h1, h2⟩ | h1 | ⟨h1, h2, h3⟩ | ⟨h1, h2, h3⟩ | ⟨h1, h2, h3⟩⟩
  ·rw [bts_length] at h0; omega
  ·exact f47_low s w hl0 h1 h2
  ·exact f47_high s w hl0 h1
  all_goals rw [bts_length] at h3
  ·exact f47_2_no s w hs hl0 h1 h2 h3
  ·exact f47_3_no s w hs hl0 h1 h2 h3
  ·exact f47_4_no s w hs hl0 h1 h2 h3
 | some p =>
  obtain ⟨c, n⟩ := p
  have hg : Ch.good c n = false := by
   cases hg : Ch.good c n
   ·rfl
   ·unfold Ch.dec at hd; rw [hr] at hd; simp only [hg, if_true] at hd; cases hd
  obtain ⟨h1, h4, _⟩ := Ch.raw_le hr
  cases hv : Ch.valid c
  ·obtain rfl | rfl | rfl | rfl : n = 1 \/ n = 2 \/ n = 3 \/ n = 4 := by omega
   ·exact f47_1_not s w hG hs c hr hv
   ·exact f47_2_not s w hG hs c hr hv
   ·exact f47_3_not s w hG hs c hr hv
   ·exact f47_4_not s w hG hs c hr hv
  ·have hk : Ch.lenN c ≠ n := by
    intro e; rw [Ch.good, hv, Bool.true_and, decide_eq_true e] at hg; cases hg
   obtain rfl | rfl | rfl | rfl : n = 1 \/ n = 2 \/ n = 3 \/ n = 4 := by omega
   ·exfalso
    obtain ⟨_, hc, e⟩ := Ch.raw_1 hr
    apply hk; unfold Ch.lenN; rw [if_pos (by omega)]
   ·exact f47_2_long s w hG hs c hr hv hk
   ·exact f47_3_long s w hG hs c hr hv hk
   ·exact f47_4_long s w hG hs c hr hv hk
open Go.Shelf
attribute [local go_sem] Oper.semAt_some

def items (s : ByteArray) : List (Nat × Int) := Ch.items (s.size + 1) (bts s) 0

def Keeps2 (b : Nat) (W W' : World) : Prop := W'.heap[b]? = W.heap[b]? /\ W'.heap[1]? = W.heap[1]? /\ W.heap.size <= W'.heap.size
theorem Keeps2.refl (b : Nat) (W : World) : Keeps2 b W W := ⟨rfl, rfl, Nat.le_refl _⟩
theorem Keeps2.trans {b : Nat} {A B C : World} (h : Keeps2 b A B) (k : Keeps2 b B C) : Keeps2 b A C := ⟨k.1.trans h.1, k.2.1.trans h.2.1, Nat.le_trans h.2.2 k.2.2⟩
theorem Keeps2.of_below {b N : Nat} {A B : World} (h : Below N A B) (hb : b < N) (h0 : 1 < N) : Keeps2 b A B := ⟨h.block b hb, h.block 1 h0, h.size⟩
theorem Keeps2.rng {b : Nat} {A B : World} (h : Keeps2 b A B) (hr : Rng A) : Rng B := by
 obtain ⟨T, fr, hR⟩ := hr
 exact ⟨T, fr, h.2.1.trans hR⟩
theorem Keeps2.cell {b : Nat} {A B : World} (h : Keeps2 b A B) : B.cell? ⟨b, 0, none⟩ = A.cell? ⟨b, 0, none⟩ := World.cell?_of_block (a := ⟨b, 0, none⟩) h.1
theorem items_end (f p : Nat) (l : List Nat) (h : l.length <= p) : Ch.items f (l.drop p) p = [] := by
 cases f with
 | zero => rfl
 | succ f => unfold Ch.items; rw [if_pos (List.drop_of_length_le h)]
theorem items_none {f p : Nat} {l : List Nat} (hp : p < l.length) (hd : Ch.dec (l.drop p) = none) : Ch.items (f + 1) (l.drop p) p = [(p, -1)] := by
 rw [Ch.items, if_neg (by intro e; have := congrArg List.length e; simp at this; omega), hd]
theorem items_some {f p c n : Nat} {l : List Nat} (hp : p < l.length) (hd : Ch.dec (l.drop p) = some (c, n)) : Ch.items (f + 1) (l.drop p) p = (p, (c : Int)) :: Ch.items f (l.drop (p + n)) (p + n) := by
 rw [Ch.items, if_neg (by intro e; have := congrArg List.length e; simp at this; omega), hd]
 simp only [List.drop_drop]

theorem f46_in (n : Nat) (hn : 1 <= n) (l Bs : Nat) (s : ByteArray) (hs : s.size <= maxLen) (J Jx : List (Nat × Int) -> World -> Prop) (W : World) (hJ : AbidesFrom W.heap.size J) (hn1 : Bs < W.heap.size)
  (hY : ∀ pre x W1, J pre W1 -> pre.length < s.size + 1 -> YieldAt Fence.wide (n - 1) Tryz.prog l #[.int .i64 (x.1 : Int), .int .i32 x.2] W1 fun e W' =>
   (e = .returned (.bool true) /\ J (pre ++ [x]) W' /\ Keeps2 Bs W1 W') \/ (e = .returned (.bool false) /\ Jx (pre ++ [x]) W'))
  (hBs : W.cell? ⟨Bs, 0, none⟩ = some (.string s)) (hG : Rng W) (h0 : J [] W) :
  CallsIn Fence.wide n Tryz.prog 91 #[.func (.yield l) #[] #[], .pointer (some ⟨Bs, 0, none⟩)] W fun e W' => (∃ v, e = .returned v) /\
   ((∃ ys, ys = items s /\ J ys W') \/ (∃ pre, pre <+: items s /\ Jx pre W')) := by
 have hs' := hs
 unfold maxLen at hs
 refine callsIn_of_wp Tryz.func91 rfl trivial ?_ rfl
 simp only [Tryz.ntmps91, List.size_toArray, List.length_cons, List.length_nil, Nat.reduceAdd, Nat.reduceSub, Array.replicate_succ, Array.replicate_zero, List.push_toArray, List.append_toArray, List.nil_append, List.cons_append]
 gi_wp2
 gi_loopw [3] (fun i wr => ∃ (p f : Nat) (pre : List (Nat × Int)), p <= s.size /\ s.size < p + f /\ pre.length <= p /\ i = .int .i64 p /\ Hid (items s = pre ++ Ch.items f ((bts s).drop p) p) /\ J pre wr /\ Keeps2 Bs W wr)
  (fun i _ => s.size - (intOf i).toNat)
 case atStart => exact ⟨0, s.size + 1, [], Nat.zero_le _, by omega, by simp, rfl, Lib.hid rfl, h0, Keeps2.refl _ _⟩
 case round =>
  obtain ⟨p, f, pre, hp, hf, hpre, rfl, hit, hJs, hnx⟩ := hrel
  have hcx : wr.cell? ⟨Bs, 0, none⟩ = some (.string s) := hnx.cell.trans hBs
  have hGr : Rng wr := hnx.rng hG
  have hsz := hnx.2.2
  by_cases hlt : p < s.size
  ·have hsz' : (s.extract p s.size).size = s.size - p := by simp
   have hle : (s.extract p s.size).size <= maxLen := by omega
   have hpos : 0 < (s.extract p s.size).size := by omega
   obtain ⟨f, rfl⟩ : ∃ f', f = f' + 1 := ⟨f - 1, by omega⟩
   have hpl : p < (bts s).length := by rw [bts_length]; exact hlt
   clear hsz'
   cases hd : Ch.dec ((bts s).drop p) with
   | none =>
    have hd' : Ch.dec (bts (s.extract p s.size)) = none := by rw [bts_from]; exact hd
    have HD' : Hid _ := Lib.hid hd'
    have hit' : Hid (items s = pre ++ [(p, -1)]) := Lib.hid (by rw [hit.out, items_none hpl hd])
    clear hd hd' hit
    gi_wp2_with (refine ⟨trivial, ?_⟩; gi_at_call 92; refine (callsIn_wide.2 (f47_none _ _ hGr hle hpos HD'.out)).mono ?_; rintro e w1 ⟨rfl, hb1⟩; have hJ1 := hJ _ _ _ none hJs (grown_of_below hb1) (fun _ e => by cases e); obtain ⟨fn, tmps, assign, body, hy, hR⟩ := hY pre (p, -1) w1 hJ1 (by omega); dsimp only at hy)
    refine hR.mono ?_
    rintro e W3 (⟨rfl, hJ3, hk3⟩ | ⟨rfl, hJx3⟩)
    ·gi_wp2
     refine bodyPost_ret (results_none rfl _ _ _) rfl ?_
     exact ⟨⟨_, rfl⟩, .inl ⟨_, hit'.out.symm, hJ3⟩⟩
    ·gi_wp2
     refine bodyPost_ret (results_none rfl _ _ _) rfl ?_
     exact ⟨⟨_, rfl⟩, .inr ⟨_, by rw [hit'.out]; exact List.prefix_refl _, hJx3⟩⟩
   | some q =>
    obtain ⟨c, m⟩ := q
    have hd' : Ch.dec (bts (s.extract p s.size)) = some (c, m) := by rw [bts_from]; exact hd
    obtain ⟨hm1, hm4, hml⟩ := Ch.dec_le hd
    have hm0 : ((m : Int) == 0) = false := beq_eq_false_iff_ne.2 (by omega)
    have hpm : p + m <= s.size := by simp only [List.length_drop, bts_length] at hml; omega
    have HD' : Hid _ := Lib.hid hd'
    have hit' : Hid (items s = (pre ++ [(p, (c : Int))]) ++ Ch.items f ((bts s).drop (p + m)) (p + m)) := Lib.hid (by rw [hit.out, items_some hpl hd]; simp)
    clear hd hd' hit hml
    gi_wp2_with (refine ⟨trivial, ?_⟩; gi_at_call 92; refine (callsIn_wide.2 (f47_some _ _ hGr hle c m HD'.out)).mono ?_; rintro e w1 ⟨rfl, hb1⟩; have hJ1 := hJ _ _ _ none hJs (grown_of_below hb1) (fun _ e => by cases e); obtain ⟨fn, tmps, assign, body, hy, hR⟩ := hY pre (p, (c : Int)) w1 hJ1 (by omega); dsimp only at hy)
    refine hR.mono ?_
    rintro e W3 (⟨rfl, hJ3, hk3⟩ | ⟨rfl, hJx3⟩)
    ·gi_wp2
     go_roundw
     case rel => exact ⟨p + m, f, pre ++ [(p, (c : Int))], by omega, by omega, by simp; omega, by simp, hit', hJ3, (hnx.trans (Keeps2.of_below hb1 (by omega) hGr.pos)).trans hk3⟩
     case measure => simp [intOf]; omega
    ·gi_wp2
     refine bodyPost_ret (results_none rfl _ _ _) rfl ?_
     exact ⟨⟨_, rfl⟩, .inr ⟨_, by rw [hit'.out]; exact List.prefix_append _ _, hJx3⟩⟩
  ·have hpe : p = s.size := by omega
   have hit' : items s = pre := by rw [hit.out, items_end f p _ (by rw [bts_length]; omega), List.append_nil]
   have HI : Hid _ := Lib.hid hit'
   clear hit' hit hpe
   gi_wp2
   go_end0
   exact ⟨⟨_, rfl⟩, .inl ⟨_, HI.out.symm, hJs⟩⟩

theorem all_stops (n : Nat) (hn : 1 <= n) (Bs : Nat) (s : ByteArray) (hs : s.size <= maxLen) (w : World) (hB : Bs < w.heap.size) (hBs : w.cell? ⟨Bs, 0, none⟩ = some (.string s)) (hG : Rng w) :
  SeqStopsK Fence.wide n Tryz.prog 91 #[.pointer (some ⟨Bs, 0, none⟩)] (fun x : Nat × Int => #[Value.int .i64 (x.1 : Int), Value.int .i32 x.2]) (Keeps2 Bs) (fun ys => ys = items s) (fun pre => pre <+: items s) (s.size + 1) w :=
 fun l J Jx W hW hJ _ hY h0 =>
  f46_in n hn l Bs s hs J Jx W hJ (Nat.lt_of_lt_of_le hB hW.size) hY ((hW.cell (p := ⟨Bs, 0, none⟩) hB).trans hBs) (hG.next hW) h0

theorem f30_any (s : ByteArray) (w : World) : Calls Tryz.prog 47 #[.string s] w fun e w' => e = .returned (.func (.func 91) #[] #[.pointer (some ⟨w.heap.size, 0, none⟩)]) /\ w.alloc (.cells #[.string s] 9) = w' := by
 go_enter Tryz.func47, Tryz.ntmps47
 go_wp2
 go_ret
 exact ⟨rfl, rfl⟩

theorem box_cell {W : World} {b : Nat} {v : Value} {t : TypeId} (hB : W.heap[b]? = some (.cells #[v] t (0, 0))) : W.cell? ⟨b, 0, none⟩ = some v /\ W.frozen? ⟨b, 0, none⟩ = false :=
 ⟨by simp [World.cell?, hB], by simp [World.frozen?, hB]⟩
theorem keeps2_b {b N : Nat} {w0 : World} (hb : b < N) (h0 : 1 < w0.heap.size) (hN : w0.heap.size <= N) (W : World) (l : Nat) (o o' : Obj) (hl : N <= l) (h : W.heap[l]? = some o) (_ : o.isCells = false) (_ : o.isWalk = false) : Keeps2 b W (W.putObj l o') := by
 have hg := grownBy_putObj' W l o'
 have hlt := (Array.getElem?_eq_some_iff.1 h).1
 exact ⟨hg.block b (by omega) (fun e => by cases e; omega), hg.block 1 (by omega) (fun e => by cases e; omega), hg.size⟩

def wrongI (s : ByteArray) : Int := match (items s).find? (fun x => decide (x.2 < 0)) with | some x => (x.1 : Int) | none => -1

theorem f31_in (s : ByteArray) (hs : s.size <= maxLen) (w : World) (hG : Rng w) : CallsIn Fence.wide 9 Tryz.prog 48 #[.string s] w fun e w' => e = .returned (.int .i64 (wrongI s)) /\ Below w.heap.size w w' := by
 refine callsIn_of_wp_marks Tryz.func48 rfl trivial ?_ rfl
 simp only [Tryz.ntmps48, List.size_toArray, List.length_cons, List.length_nil, Nat.reduceAdd, Nat.reduceSub, Array.replicate_succ, Array.replicate_zero, List.push_toArray, List.append_toArray, List.nil_append, List.cons_append]
 gi_wp2_with (refine ⟨trivial, ?_⟩; gi_at_call 47; refine (callsIn_wide.2 (f30_any _ _)).mono ?_; rintro e w1 ⟨rfl, rfl⟩)
 obtain ⟨W0, hW0⟩ : ∃ W0, (w.alloc (.cells #[.int .i64 0] 3)).alloc (.cells #[.string s] 9) = W0 := ⟨_, rfl⟩
 have hs0 : W0.heap.size = w.heap.size + 2 := by rw [<- hW0]; simp
 have hB0 : W0.heap[w.heap.size]? = some (.cells #[.int .i64 0] 3 (0, 0)) := by
  rw [<- hW0]; exact (Below.heap_alloc _ _ _ (by simp)).trans (World.alloc_heap_new w _)
 have hB1 : W0.heap[w.heap.size + 1]? = some (.cells #[.string s] 9 (0, 0)) := by
  rw [<- hW0]; have := World.alloc_heap_new (w.alloc (.cells #[.int .i64 0] 3)) (.cells #[.string s] 9); rwa [World.size_alloc] at this
 have hb0 : Below w.heap.size w W0 := by rw [<- hW0]; exact ((Below.refl _ w).alloc (Nat.le_refl _) _).alloc (by simp) _
 rw [hW0]
 clear hW0
 refine wpIn_rangeFunc_ownF rfl (by decide) (gf := 91) (lb := #[.pointer (some ⟨w.heap.size + 1, 0, none⟩)]) rfl trivial (enters_of Tryz.func91 (by kernel_rfl) rfl)
  (all_stops 8 (by decide) (w.heap.size + 1) s hs W0 (by omega) (box_cell hB1).1 (hG.next hb0))
  Keeps2.trans (keeps2_b (by omega) hG.pos hb0.size) (Below.refl _ _) (fun _ => rfl)
  (fun pre W => ((∀ y ∈ pre, 0 <= y.2) /\ W.cell? ⟨w.heap.size, 0, none⟩ = some (.int .i64 0) /\ W.frozen? ⟨w.heap.size, 0, none⟩ = false) /\ Below w.heap.size w W)
  (fun c pre W => (c = .ret /\ ∃ pre' x, pre = pre' ++ [x] /\ (∀ y ∈ pre', 0 <= y.2) /\ x.2 < 0 /\ W.cell? ⟨w.heap.size, 0, none⟩ = some (.int .i64 (x.1 : Int))) /\ Below w.heap.size w W)
  (OwnFrom.and (Own.from (fun s A B row hs hg hr => ⟨hs.1, cell_kept hs.2.1 hg hr, (frozen_kept hs.2.1 hg hr).trans hs.2.2⟩) _) (ownFrom_below (Nat.le_refl _) (by omega)))
  (fun c => OwnFrom.and (Own.from (fun s A B row hs hg hr => by obtain ⟨h1, p, x, h2, h3, h4, h5⟩ := hs; exact ⟨h1, p, x, h2, h3, h4, cell_kept h5 hg hr⟩) _) (ownFrom_below (Nat.le_refl _) (by omega)))
  ⟨⟨by simp, (box_cell hB0).1, (box_cell hB0).2⟩, hb0⟩
  (fun x => { tmps := #[.string s, undef, .pointer (some ⟨w.heap.size, 0, none⟩), .int .i64 (x.1 : Int), .int .i32 x.2, .string s, .func (.func 91) #[] #[.pointer (some ⟨w.heap.size + 1, 0, none⟩)], .int .i64 (x.1 : Int), .int .i32 x.2, undef, undef, undef], defers := [] }) ?assign ?body ?done ?stop
 case assign =>
  intro l x W K hK
  gi_wp2
  exact hK
 case body =>
  rintro l pre ⟨xi, xc⟩ W ⟨⟨hp, hcr, hfr⟩, hB⟩ _
  gi_wp2
  ·have hx : xc < 0 := by assumption
   exact ⟨KeepsOthers.setCell _ _ _, ⟨rfl, pre, (xi, xc), rfl, hp, hx, World.cell?_setCell_same' _ _ _ (by rw [hcr]; rfl)⟩, hB.setCell (Nat.le_refl _) _⟩
  ·have hx : 0 <= xc := by assumption
   exact ⟨KeepsOthers.refl _, Keeps2.refl _ _, ⟨fun y hy => (List.mem_append.1 hy).elim (hp y) (fun e => by simp at e; subst e; exact hx), hcr, hfr⟩, hB⟩
 case done =>
  rintro D xs W hD rfl ⟨⟨hne, hcr, hfr⟩, hB⟩ hK
  have hw : wrongI s = -1 := by
   unfold wrongI
   rw [List.find?_eq_none.2 (fun y hy => by have := hne y hy; simp; omega)]
  gi_wp2
  have hK' := (KeepsOthers.setCell W ⟨w.heap.size, 0, none⟩ (.int .i64 (-1))).same D _ hK rfl
  refine ⟨by simp, .inl ⟨_, _, rfl, run_takeDeferred hK', ?_⟩⟩
  have hc5 := cell_kept (World.cell?_setCell_same' W ⟨w.heap.size, 0, none⟩ (.int .i64 (-1)) (by rw [hcr]; rfl)) (grownBy_putObj' _ D (.deferred none)) (fun r e => by cases e; exact ⟨_, hK', rfl⟩)
  refine ⟨.int .i64 (-1), ?_, by rw [hw], ?_⟩
  ·simp [results, Tryz.f48, go_sem, hc5]
  ·exact (hB.setCell (Nat.le_refl _) _).trans (belowK_b (w := w) (Nat.le_refl _) _ D _ _ (by omega) hK' rfl rfl)
 case stop =>
  rintro D c pre W hD hpre ⟨⟨rfl, pre', x, rfl, hp, hx, hcr⟩, hB⟩ hK
  have hw : wrongI s = x.1 := by
   unfold wrongI
   obtain ⟨t, ht⟩ := hpre
   rw [<- ht, List.append_assoc, List.find?_append, List.find?_eq_none.2 (fun y hy => by have := hp y hy; simp; omega)]
   simp [hx]
  gi_wp2
  refine ⟨by simp, .inl ⟨_, _, rfl, run_takeDeferred hK, ?_⟩⟩
  have hc5 := cell_kept hcr (grownBy_putObj' _ D (.deferred none)) (fun r e => by cases e; exact ⟨_, hK, rfl⟩)
  refine ⟨.int .i64 x.1, ?_, by rw [hw], ?_⟩
  ·simp [results, Tryz.f48, go_sem, hc5]
  ·exact hB.trans (belowK_b (w := w) (Nat.le_refl _) _ D _ _ (by omega) hK rfl rfl)
theorem f31_any (s : ByteArray) (hs : s.size <= maxLen) (w : World) (hG : Rng w) : Calls Tryz.prog 48 #[.string s] w fun e w' => e = .returned (.int .i64 (wrongI s)) /\ Below w.heap.size w w' := callsIn_wide.1 (f31_in s hs w hG)
attribute [local go_sem] Oper.semAt_some

theorem Tryz.info21 : (Tryz.prog.info? 21).map (fun i => (i.zero, i.size, i.bytes)) = some (some (.int .i32 0), 1, 4) := by kernel_rfl
def i32s (l : List Int) : List Value := l.map fun n : Int => Value.int .i32 n
def seconds (l : List (Nat × Int)) : List Int := l.map (·.2)
theorem heap_appended {W w1 : World} {B k : Nat} {v v' : Value} {tmp : Obj} (hk : k < W.heap.size) (hr : some k ≠ v.ownBlock) (hB : k ≠ B) (hgrow : (W.alloc tmp).grownBy w1 v.ownBlock) : (w1.setCell ⟨B, 0, none⟩ v').heap[k]? = W.heap[k]? :=
 (Below.heap_setCell w1 ⟨B, 0, none⟩ v' k hB).trans ((hgrow.block k (by simp; omega) hr).trans (Below.heap_alloc W tmp k hk))
theorem boxed_keep {X Y : World} {row : Option Nat} {B : Nat} {t : TypeId} {v : Value} (hs : Boxed X B t v) (hg : X.grownBy Y row) (hrow : ∀ r, row = some r -> ∃ o : Obj, X.heap[r]? = some o /\ o.isCells = false) : Boxed Y B t v :=
 boxed_own (β := Unit) B t (fun _ => v) () X Y row hs hg hrow
theorem f24_in (s : ByteArray) (hs : s.size <= 1000000) (w : World) (hG : Rng w) : CallsIn Fence.wide 9 Tryz.prog 24 #[.string s] w fun e w' =>
  ((∃ v, wrongI s = -1 /\ e = .returned (.tuple #[v, .int .i64 0, .int .i64 0]) /\ w'.ownsRow w.heap.size 21 1 v (items s).length (i32s (seconds (items s)))) \/ (0 <= wrongI s /\ e = .returned (.tuple #[.slice none 0 0, .int .i64 (wrongI s), .int .i64 6]))) /\ Below w.heap.size w w' := by
 refine callsIn_of_wp_marks Tryz.func24 rfl trivial ?_ rfl
 simp only [Tryz.ntmps24, List.size_toArray, List.length_cons, List.length_nil, Nat.reduceAdd, Nat.reduceSub, Array.replicate_succ, Array.replicate_zero, List.push_toArray, List.append_toArray, List.nil_append, List.cons_append]
 gi_wp2_with (refine ⟨trivial, ?_⟩; gi_at_call 47; refine (callsIn_wide.2 (f30_any _ _)).mono ?_; rintro e w1 ⟨rfl, rfl⟩)
 obtain ⟨W0, hW0⟩ : ∃ W0, ((((w.alloc (.cells #[.slice none 0 0] 49)).alloc (.cells #[.int .i64 0] 3)).alloc (.cells #[.int .i64 0] 30)).alloc (.cells #[.slice none 0 0] 49)).alloc (.cells #[.string s] 9) = W0 := ⟨_, rfl⟩
 have hs0 : W0.heap.size = w.heap.size + 5 := by rw [<- hW0]; simp
 have hB0 : Boxed W0 w.heap.size 49 (.slice none 0 0) := by rw [<- hW0]; exact ((((Boxed.new w 49 _).alloc _).alloc _).alloc _).alloc _
 have hB1 : Boxed W0 (w.heap.size + 1) 3 (.int .i64 0) := by
  rw [<- hW0]; have := Boxed.new (w.alloc (.cells #[.slice none 0 0] 49)) 3 (.int .i64 0); rw [World.size_alloc] at this; exact ((this.alloc _).alloc _).alloc _
 have hB2 : Boxed W0 (w.heap.size + 1 + 1) 30 (.int .i64 0) := by
  rw [<- hW0]; have := Boxed.new ((w.alloc (.cells #[.slice none 0 0] 49)).alloc (.cells #[.int .i64 0] 3)) 30 (.int .i64 0); rw [World.size_alloc, World.size_alloc] at this; exact (this.alloc _).alloc _
 have hB3 : Boxed W0 (w.heap.size + 1 + 1 + 1) 49 (.slice none 0 0) := by
  rw [<- hW0]; have := Boxed.new (((w.alloc (.cells #[.slice none 0 0] 49)).alloc (.cells #[.int .i64 0] 3)).alloc (.cells #[.int .i64 0] 30)) 49 (.slice none 0 0); rw [World.size_alloc, World.size_alloc, World.size_alloc] at this; exact this.alloc _
 have hB4 : Boxed W0 (w.heap.size + 1 + 1 + 1 + 1) 9 (.string s) := by
  rw [<- hW0]; have := Boxed.new ((((w.alloc (.cells #[.slice none 0 0] 49)).alloc (.cells #[.int .i64 0] 3)).alloc (.cells #[.int .i64 0] 30)).alloc (.cells #[.slice none 0 0] 49)) 9 (.string s); rw [World.size_alloc, World.size_alloc, World.size_alloc, World.size_alloc] at this; exact this
 have hb0 : Below w.heap.size w W0 := by rw [<- hW0]; exact (((((Below.refl _ w).alloc (Nat.le_refl _) _).alloc (by simp) _).alloc (by simp; omega) _).alloc (by simp; omega) _).alloc (by simp; omega) _
 rw [hW0]
 clear hW0
 obtain ⟨i0, hi, hz0, hz1, hz2⟩ := info_parts Tryz.info21
 refine wpIn_rangeFunc_ownF rfl (by decide) (gf := 91) (lb := #[.pointer (some ⟨w.heap.size + 1 + 1 + 1 + 1, 0, none⟩)]) rfl trivial (enters_of Tryz.func91 (by kernel_rfl) rfl)
  (all_stops 8 (by decide) (w.heap.size + 1 + 1 + 1 + 1) s (by unfold maxLen; omega) W0 (by omega) hB4.cell (hG.next hb0))
  Keeps2.trans (keeps2_b (by omega) hG.pos hb0.size) (Below.refl _ _) (fun _ => rfl)
  (fun pre W => Boxed W (w.heap.size + 1 + 1 + 1 + 1) 9 (.string s) /\ Boxed W w.heap.size 49 (.slice none 0 0) /\ Boxed W (w.heap.size + 1) 3 (.int .i64 0) /\ Boxed W (w.heap.size + 1 + 1) 30 (.int .i64 0) /\
   (∃ v, Boxed W (w.heap.size + 1 + 1 + 1) 49 v /\ W.ownsRow w.heap.size 21 1 v pre.length (i32s (seconds pre)) /\ True) /\ (∀ y ∈ pre, 0 <= y.2) /\ Below w.heap.size w W)
  (fun c pre W => (c = .ret /\ ∃ pre' x, pre = pre' ++ [x] /\ (∀ y ∈ pre', 0 <= y.2) /\ x.2 < 0 /\ Boxed W w.heap.size 49 (.slice none 0 0) /\ Boxed W (w.heap.size + 1) 3 (.int .i64 (x.1 : Int)) /\ Boxed W (w.heap.size + 1 + 1) 30 (.int .i64 6)) /\ Below w.heap.size w W)
  ((Own.from (boxed_own _ _ _) _).and ((Own.from (boxed_own _ _ _) _).and ((Own.from (boxed_own _ _ _) _).and ((Own.from (boxed_own _ _ _) _).and ((Own.from (holdsRow_own _ _ _ _ _ _ _ (fun _ _ => True)) _).and ((ownFrom_pure _ _).and (ownFrom_below (Nat.le_refl _) (by omega))))))))
  (fun c => OwnFrom.and (Own.from (fun s A B row hs hg hr => by
   obtain ⟨h1, p, x, h2, h3, h4, h5, h6, h7⟩ := hs
   exact ⟨h1, p, x, h2, h3, h4, boxed_keep h5 hg hr, boxed_keep h6 hg hr, boxed_keep h7 hg hr⟩) _) (ownFrom_below (Nat.le_refl _) (by omega)))
  ⟨hB4, hB0, hB1, hB2, ⟨_, hB3, ⟨rfl, .inl ⟨rfl, rfl⟩⟩, trivial⟩, by simp, hb0⟩
  (fun x => { tmps := #[.string s, undef, .pointer (some ⟨w.heap.size, 0, none⟩), .pointer (some ⟨w.heap.size + 1, 0, none⟩), .pointer (some ⟨w.heap.size + 1 + 1, 0, none⟩), .pointer (some ⟨w.heap.size + 1 + 1 + 1, 0, none⟩), .int .i64 (x.1 : Int), .int .i32 x.2, .string s, .func (.func 91) #[] #[.pointer (some ⟨w.heap.size + 1 + 1 + 1 + 1, 0, none⟩)], .int .i64 (x.1 : Int), .int .i32 x.2, undef, undef, undef, undef, undef, undef, undef, undef], defers := [] }) ?assign ?body ?done ?stop
 case assign =>
  intro l x W K hK
  gi_wp2
  exact hK
 case body =>
  rintro l pre ⟨xi, xc⟩ W ⟨h4, h0, h1, h2, ⟨v, h3, hrow, _⟩, hp, hB⟩ hlen
  have hc0 := h0.cell
  have hc1 := h1.cell
  have hc2 := h2.cell
  have hc3 := h3.cell
  have hf0 := h0.frozen
  have hf1 := h1.frozen
  have hf2 := h2.frozen
  have hlt := h3.lt
  by_cases hx : xc < 0
  ·gi_wp2
   refine ⟨((KeepsOthers.setCell _ _ _).trans (KeepsOthers.setCell _ _ _)).trans (KeepsOthers.setCell _ _ _), ⟨rfl, pre, (xi, xc), rfl, hp, hx, ?_, ?_, ?_⟩, ((hB.setCell (Nat.le_refl _) _).setCell (p := ⟨w.heap.size + 1, 0, none⟩) (by simp) _).setCell (p := ⟨w.heap.size + 1 + 1, 0, none⟩) (by simp; omega) _⟩
   ·exact ((h0.set _).other (by omega) _).other (by omega) _
   ·exact ((h1.other (by omega) _).set _).other (by omega) _
   ·exact ((h2.other (by omega) _).other (by omega) _).set _
  ·have hx' : 0 <= xc := by omega
   clear hx
   gi_wp2_with (gi_at_builtin; refine wpListIn_append_own _ rfl _ _ 49 rfl w.heap.size 21 i0 (.int .i32 0) 1 4 Tryz.underlying49 hi hz0 hz1 hz2 rfl (by decide) v pre.length (i32s (seconds pre)) rfl (hrow.alloc _) ⟨W.heap.size, 0, none⟩ 1 1 [.int .i32 xc] rfl rfl (cell_one_new _ _ _) (by simp [Value.oneCell']) (by unfold maxLen; omega) (by omega) (by have := hB.size; simp; omega) ?_; intro v' w1 hown' hgrow _; obtain ⟨g', cap', rfl⟩ := ownsRow_succ hown'; obtain ⟨hv1, hv2, hr2, hk2, hb2⟩ := h3.appended (by decide) hrow hB.size (by omega) hown' hgrow; have hcv := hv1.cell; have hfv := hv1.frozen)
   refine ⟨hk2, ⟨heap_appended h4.lt (h4.not_row (by decide) hrow) (by omega) hgrow, heap_appended (by omega) (row_ge hrow 1 hG.pos) (by omega) hgrow, ?_⟩, ?_⟩
   ·exact hk2.1
   ·refine ⟨(heap_appended h4.lt (h4.not_row (by decide) hrow) (by omega) hgrow).trans h4, (heap_appended h0.lt (h0.not_row (by decide) hrow) (by omega) hgrow).trans h0, (heap_appended h1.lt (h1.not_row (by decide) hrow) (by omega) hgrow).trans h1, (heap_appended h2.lt (h2.not_row (by decide) hrow) (by omega) hgrow).trans h2, ⟨_, hv2, ?_, trivial⟩, ?_, hB.trans hb2⟩
    ·simpa [i32s, seconds] using hr2
    ·intro y hy
     rcases List.mem_append.1 hy with h | h
     ·exact hp y h
     ·simp at h; subst h; exact hx'
 case done =>
  rintro D xs W hD rfl ⟨h4, h0, h1, h2, ⟨v, h3, hrow, _⟩, hp, hB⟩ hK
  have hw : wrongI s = -1 := by
   unfold wrongI
   rw [List.find?_eq_none.2 (fun y hy => by have := hp y hy; simp; omega)]
  obtain ⟨va, vcap, rfl⟩ := row_slice hrow
  have hc0 := h0.cell
  have hc1 := h1.cell
  have hc2 := h2.cell
  have hc3 := h3.cell
  have hf0 := h0.frozen
  have hf1 := h1.frozen
  have hf2 := h2.frozen
  gi_wp2
  obtain ⟨W1, hW1⟩ : ∃ W1, W.setCell ⟨w.heap.size, 0, none⟩ (.slice va (items s).length vcap) = W1 := ⟨_, rfl⟩
  obtain ⟨W2, hW2⟩ : ∃ W2, W1.setCell ⟨w.heap.size + 1, 0, none⟩ (.int .i64 0) = W2 := ⟨_, rfl⟩
  obtain ⟨W3, hW3⟩ : ∃ W3, W2.setCell ⟨w.heap.size + 1 + 1, 0, none⟩ (.int .i64 0) = W3 := ⟨_, rfl⟩
  rw [hW1, hW2, hW3]
  have r1 : W1.ownsRow w.heap.size 21 1 (.slice va (items s).length vcap) (items s).length (i32s (seconds (items s))) := by rw [<- hW1]; exact hrow.kept (grownBy_setCell' _ _ _) (.inr (h0.not_row (by decide) hrow).symm)
  have a0 : Boxed W1 w.heap.size 49 (.slice va (items s).length vcap) := by rw [<- hW1]; exact h0.set _
  have a1 : Boxed W1 (w.heap.size + 1) 3 (.int .i64 0) := by rw [<- hW1]; exact h1.other (by omega) _
  have a2 : Boxed W1 (w.heap.size + 1 + 1) 30 (.int .i64 0) := by rw [<- hW1]; exact h2.other (by omega) _
  have r2 : W2.ownsRow w.heap.size 21 1 (.slice va (items s).length vcap) (items s).length (i32s (seconds (items s))) := by rw [<- hW2]; exact r1.kept (grownBy_setCell' _ _ _) (.inr (a1.not_row (by decide) r1).symm)
  have b0 : Boxed W2 w.heap.size 49 (.slice va (items s).length vcap) := by rw [<- hW2]; exact a0.other (by omega) _
  have b1 : Boxed W2 (w.heap.size + 1) 3 (.int .i64 0) := by rw [<- hW2]; exact a1.set _
  have b2 : Boxed W2 (w.heap.size + 1 + 1) 30 (.int .i64 0) := by rw [<- hW2]; exact a2.other (by omega) _
  have r3 : W3.ownsRow w.heap.size 21 1 (.slice va (items s).length vcap) (items s).length (i32s (seconds (items s))) := by rw [<- hW3]; exact r2.kept (grownBy_setCell' _ _ _) (.inr (b2.not_row (by decide) r2).symm)
  have c0 : Boxed W3 w.heap.size 49 (.slice va (items s).length vcap) := by rw [<- hW3]; exact b0.other (by omega) _
  have c1 : Boxed W3 (w.heap.size + 1) 3 (.int .i64 0) := by rw [<- hW3]; exact b1.other (by omega) _
  have c2 : Boxed W3 (w.heap.size + 1 + 1) 30 (.int .i64 0) := by rw [<- hW3]; exact b2.set _
  have hK' : W3.heap[D]? = some (.deferred (some [])) := by
   rw [<- hW3, <- hW2, <- hW1]
   exact (((KeepsOthers.setCell _ _ _).trans (KeepsOthers.setCell _ _ _)).trans (KeepsOthers.setCell _ _ _)).same D _ hK rfl
  have hB3 : Below w.heap.size w W3 := by
   rw [<- hW3, <- hW2, <- hW1]
   exact ((hB.setCell (Nat.le_refl _) _).setCell (p := ⟨w.heap.size + 1, 0, none⟩) (by simp) _).setCell (p := ⟨w.heap.size + 1 + 1, 0, none⟩) (by simp; omega) _
  clear hW1 hW2 hW3 hc0 hc1 hc2 hc3 hf0 hf1 hf2
  refine ⟨by simp, .inl ⟨_, _, rfl, run_takeDeferred hK', ?_⟩⟩
  have q0 := (boxed_keep c0 (grownBy_putObj' _ D (.deferred none)) (fun r e => by cases e; exact ⟨_, hK', rfl⟩)).cell
  have q1 := (boxed_keep c1 (grownBy_putObj' _ D (.deferred none)) (fun r e => by cases e; exact ⟨_, hK', rfl⟩)).cell
  have q2 := (boxed_keep c2 (grownBy_putObj' _ D (.deferred none)) (fun r e => by cases e; exact ⟨_, hK', rfl⟩)).cell
  refine ⟨.tuple #[.slice va (items s).length vcap, .int .i64 0, .int .i64 0], ?_, .inl ⟨_, hw, rfl, ownsRow_putObj r3 _ hK' rfl⟩, ?_⟩
  ·simp [results, Tryz.f24, go_sem, q0, q1, q2]
  ·exact hB3.trans (belowK_b (w := w) (Nat.le_refl _) _ D _ _ (by omega) hK' rfl rfl)
 case stop =>
  rintro D c pre W hD hpre ⟨⟨rfl, pre', x, rfl, hp, hx, h0, h1, h2⟩, hB⟩ hK
  have hw : wrongI s = x.1 := by
   unfold wrongI
   obtain ⟨t, ht⟩ := hpre
   rw [<- ht, List.append_assoc, List.find?_append, List.find?_eq_none.2 (fun y hy => by have := hp y hy; simp; omega)]
   simp [hx]
  gi_wp2
  refine ⟨by simp, .inl ⟨_, _, rfl, run_takeDeferred hK, ?_⟩⟩
  have q0 := (boxed_keep h0 (grownBy_putObj' _ D (.deferred none)) (fun r e => by cases e; exact ⟨_, hK, rfl⟩)).cell
  have q1 := (boxed_keep h1 (grownBy_putObj' _ D (.deferred none)) (fun r e => by cases e; exact ⟨_, hK, rfl⟩)).cell
  have q2 := (boxed_keep h2 (grownBy_putObj' _ D (.deferred none)) (fun r e => by cases e; exact ⟨_, hK, rfl⟩)).cell
  refine ⟨.tuple #[.slice none 0 0, .int .i64 x.1, .int .i64 6], ?_, .inr ⟨by omega, by rw [hw]⟩, ?_⟩
  ·simp [results, Tryz.f24, go_sem, q0, q1, q2]
  ·exact hB.trans (belowK_b (w := w) (Nat.le_refl _) _ D _ _ (by omega) hK rfl rfl)
theorem f24_any (s : ByteArray) (hs : s.size <= 1000000) (w : World) (hG : Rng w) : Calls Tryz.prog 24 #[.string s] w fun e w' =>
  ((∃ v, wrongI s = -1 /\ e = .returned (.tuple #[v, .int .i64 0, .int .i64 0]) /\ w'.ownsRow w.heap.size 21 1 v (items s).length (i32s (seconds (items s)))) \/ (0 <= wrongI s /\ e = .returned (.tuple #[.slice none 0 0, .int .i64 (wrongI s), .int .i64 6]))) /\ Below w.heap.size w w' := callsIn_wide.1 (f24_in s hs w hG)
end Go.Proofs.YthoojcdjjecogaaGreatDoor
namespace Go.Proofs.YthoojcdjjecogaaGreatDoor
open Go Go.RowKit
theorem wrongI_of_all {s : ByteArray} (h : ∀ y ∈ items s, 0 <= y.2) : wrongI s = -1 := by
 unfold wrongI
 rw [List.find?_eq_none.2 (fun y hy => by have := h y hy; simp; omega)]
theorem wrongI_of_bad {s : ByteArray} {pre t : List (Nat × Int)} {x : Nat × Int} (hi : items s = pre ++ x :: t) (h : ∀ y ∈ pre, 0 <= y.2) (hx : x.2 < 0) : wrongI s = x.1 := by
 unfold wrongI
 rw [hi, List.find?_append, List.find?_eq_none.2 (fun y hy => by have := h y hy; simp; omega)]
 simp [hx]

theorem f25_any (s : ByteArray) (hs : s.size <= 1000000) (w : World) : Calls Tryz.prog 26 #[.string s] w fun e w' =>
  ((∃ v, wrongI s = -1 /\ e = .returned (.tuple #[v, .int .i64 0, .int .i64 0]) /\ w'.ownsRow w.heap.size 21 1 v (items s).length (i32s (seconds (items s)))) \/ (0 <= wrongI s /\ e = .returned (.tuple #[.slice none 0 0, .int .i64 (wrongI s), .int .i64 6]))) /\ Below w.heap.size w w' := by
 obtain ⟨i0, hi, hz0, hz1, hz2⟩ := info_parts Tryz.info21
 go_enter Tryz.func26, Tryz.ntmps26
 go_wp2
 go_loopw [5, 6] (fun v i wr => ∃ (p f : Nat) (pre : List (Nat × Int)), p <= s.size /\ s.size < p + f /\ pre.length <= p /\ i = .int .i64 p /\ Hid (items s = pre ++ Ch.items f ((bts s).drop p) p) /\ Hid (∀ y ∈ pre, 0 <= y.2) /\
   wr.ownsRow w.heap.size 21 1 v pre.length (i32s (seconds pre)) /\ Below w.heap.size w wr) (fun _ i _ => s.size - (intOf i).toNat)
 case atStart => exact ⟨0, s.size + 1, [], Nat.zero_le _, by omega, by simp, rfl, Lib.hid rfl, Lib.hid (by simp), ⟨rfl, .inl ⟨rfl, rfl⟩⟩, Below.refl _ _⟩
 case round =>
  obtain ⟨p, f, pre, hp, hf, hpre, rfl, hit, hall, hown, hB⟩ := hrel
  by_cases hlt : p < s.size
  ·have hsz' : (s.extract p s.size).size = s.size - p := by simp
   have hle : (s.extract p s.size).size <= maxLen := by unfold maxLen; omega
   obtain ⟨f, rfl⟩ : ∃ f', f = f' + 1 := ⟨f - 1, by omega⟩
   have hpl : p < (bts s).length := by rw [bts_length]; exact hlt
   clear hsz'
   cases hd : Ch.dec ((bts s).drop p) with
   | none =>
    have hd' : Ch.dec (bts (s.extract p s.size)) = none := by rw [bts_from]; exact hd
    have HD' : Hid _ := Lib.hid hd'
    have hw : wrongI s = (p : Nat) := wrongI_of_bad (x := (p, -1)) (t := []) (by rw [hit.out, items_none hpl hd]) hall.out (by simp)
    have HW : Hid _ := Lib.hid hw
    clear hd hd' hit hw
    go_wp2_with (go_at_call 52; refine (f44_none _ _ hle HD'.out).mono ?_; rintro e w1 ⟨⟨x, rfl⟩, hb1⟩)
    go_ret3
    go_light
    exact ⟨.inr ⟨by rw [HW.out]; omega, by rw [HW.out]; rfl⟩, hB.trans (hb1.mono hB.size)⟩
   | some q =>
    obtain ⟨c, m⟩ := q
    have hd' : Ch.dec (bts (s.extract p s.size)) = some (c, m) := by rw [bts_from]; exact hd
    obtain ⟨hm1, hm4, hml⟩ := Ch.dec_le hd
    obtain ⟨_, hv, hlen⟩ := Ch.dec_some hd
    have hcm := valid_nat hv
    have hpm : p + m <= s.size := by simp only [List.length_drop, bts_length] at hml; omega
    have HD' : Hid _ := Lib.hid hd'
    have HL : Hid _ := Lib.hid hlen
    have hit' : Hid (items s = (pre ++ [(p, (c : Int))]) ++ Ch.items f ((bts s).drop (p + m)) (p + m)) := Lib.hid (by rw [hit.out, items_some hpl hd]; simp)
    have hall' : Hid (∀ y ∈ pre ++ [(p, (c : Int))], 0 <= y.2) := Lib.hid (fun y hy => by
     rcases List.mem_append.1 hy with h | h
     ·exact hall.out y h
     ·simp at h; subst h; exact Int.natCast_nonneg c)
    clear hd hd' hit hml hall hv hlen
    go_wp2_with (first
     | (go_at_call 52; refine (f44_some _ _ hle c m HD'.out).mono ?_; rintro e w1 ⟨rfl, hb1⟩; have hown1 := own_below hown hb1)
     | (at_builtin; go_must (refine wpList_append_own _ rfl _ _ 49 rfl w.heap.size 21 i0 (.int .i32 0) 1 4 Tryz.underlying49 hi hz0 hz1 hz2 rfl (by decide) u5 pre.length (i32s (seconds pre)) rfl (hown1.alloc _) ⟨w1.heap.size, 0, none⟩ 1 1 [.int .i32 (c : Int)] rfl rfl (cell_one_new _ _ _) (by simp [Value.oneCell']) (by unfold maxLen; omega) (by omega) (by have := hB.size; have := hb1.size; simp; omega) ?_); intro v' w2 hown2 hgrow _)
     | (go_at_call 53; refine (f41_nat _ hcm _).mono ?_; rintro e w3 ⟨⟨bs, rfl, hbs⟩, hb3⟩; have hbl : bs.size <= 4 := (by rw [hbs, str_size, Ch.encN_length, HL.out]; exact hm4); have HB : Hid _ := Lib.hid hbs; clear hbs))
    have hbs : bs.size = m := by rw [HB.out, str_size, Ch.encN_length, HL.out]
    have hown3 := own_below hown2 hb3
    have hB2 : Below w.heap.size w w2 := (hB.trans (hb1.mono hB.size)).grown (grownBy_alloc hgrow) (by have := hB.size; have := hb1.size; omega) (fun k e => (Nat.lt_or_ge k w.heap.size).elim (fun hk => absurd e.symm (row_ge hown1 k hk)) id)
    have hB3 : Below w.heap.size w w3 := hB2.trans (hb3.mono hB2.size)
    go_wp2
    go_roundw
    case rel => exact ⟨p + m, f, pre ++ [(p, (c : Int))], by omega, by omega, by simp; omega, by rw [hbs]; simp, hit', hall', by simpa [i32s, seconds] using hown3, hB3⟩
    case measure => simp [intOf]; omega
  ·have hpe : p = s.size := by omega
   have hit' : items s = pre := by rw [hit.out, items_end f p _ (by rw [bts_length]; omega), List.append_nil]
   have hall' : wrongI s = -1 := wrongI_of_all (by rw [hit']; exact hall.out)
   have HI : Hid _ := Lib.hid hit'
   have HA : Hid _ := Lib.hid hall'
   clear hit' hit hpe hall hall'
   go_wp2
   go_ret3
   go_light
   exact ⟨.inl ⟨u5, HA.out, rfl, by rw [HI.out]; exact hown⟩, hB⟩
end Go.Proofs.YthoojcdjjecogaaGreatDoor
