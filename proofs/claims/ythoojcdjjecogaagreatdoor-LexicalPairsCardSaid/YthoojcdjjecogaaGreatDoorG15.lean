/-
  Part 15 of the proof: what functions return, and plain facts (Rof). Conditions: each theorem names its own.
-/
import Derived.Test.YthoojcdjjecogaaGreatDoorG09
set_option maxRecDepth 1000000
set_option maxHeartbeats 16000000
namespace Go.Proofs.YthoojcdjjecogaaGreatDoor
open Go Go.RowKit

theorem dz_step {u : Nat} (h : u ≠ 0) : dz u = dz (u / 10) ++ [48 + u % 10] := by
 unfold dz
 rw [if_neg h]
 by_cases h10 : u < 10
 ·rw [if_pos (by omega), Dc.digs_low h10, Nat.mod_eq_of_lt h10]; rfl
 ·rw [if_neg (by omega), Dc.digs_step (by omega)]
theorem dz_small {u : Nat} (h : u <= 9223372036854775808) : (dz u).length <= 20 := by
 unfold dz
 split
 ·exact Nat.zero_le _
 ·exact (Dc.digs_length (by decide)).2 (Nat.lt_of_le_of_lt h (by decide))
structure Rnd (z y : Int) (v : Nat) (z2 : Int) (u : Nat) : Prop where
 ez : z.natAbs = u
 ey : z.tmod 10 = y
 ev : y.natAbs = v
 eq0 : z.tdiv 10 = z2
 eq : u % 10 = v
 eq2 : z2.natAbs = u / 10
theorem Rnd.mk_ (z : Int) (u : Nat) (h : z.natAbs = u) : Rnd z (z.tmod 10) (u % 10) (z.tdiv 10) u := by
 refine ⟨h, rfl, ?_, rfl, rfl, ?_⟩
 ·rw [Int.natAbs_tmod, h]; rfl
 ·rw [Int.natAbs_tdiv, h]; rfl
theorem rOf_any (n : Int) (h0 : -9223372036854775808 <= n) (h1 : n <= 9223372036854775807) (w : World) : Calls Tryz.prog 110 #[.int .i64 n] w fun e w' => e = .returned (.agg #[.bool (decide (n < 0)), .string (str (Dc.digs n.natAbs)), .int .i64 0]) /\ Below w.heap.size w w' := by
 obtain ⟨N, hN⟩ : ∃ N, n.natAbs = N := ⟨_, rfl⟩
 have hNl : Hid (N <= 9223372036854775808) := Lib.hid (by omega)
 have HN := Lib.hid hN
 rw [hN]
 obtain ⟨g, hg0⟩ : ∃ g, decide (n < 0) = g := ⟨_, rfl⟩
 rw [hg0]
 have HG := Lib.hid hg0
 clear hN
 go_enter Tryz.func110, Tryz.ntmps110
 go_wp2_with (first | (refine wl_allocA rfl zero_dec rfl (fun W2 b2 hb => ?_); have hB := hb; clear hb))
 go_loopw [3, 4] (fun v k wr => ∃ (z : Int) (u : Nat) (t : ByteArray), k = .int .i64 z /\ v = .string t /\ -9223372036854775808 <= z /\ z <= 9223372036854775807 /\ t.size <= 20 /\ Hid (z.natAbs = u) /\ Hid (dz N = dz u ++ bts t) /\ Blk wr w.heap.size 24 #[.bool false, .string ⟨#[]⟩, .int .i64 0] /\ Below w.heap.size w wr) (fun _ k _ => (intOf k).natAbs)
 case atStart => exact ⟨n, N, ⟨#[]⟩, rfl, rfl, h0, h1, by decide, HN, Lib.hid (by simp [bts]), b2, hB⟩
 case round =>
  clear b2 hB
  obtain ⟨z, u, t, rfl, rfl, z0, z1, ht, hz, hd, b2, hB⟩ := hrel
  by_cases hz0 : z = 0
  ·subst hz0
   have hu0 : u = 0 := by have := hz.out; simpa using this.symm
   have hdn : Hid (bts t = dz N) := Lib.hid (by rw [hd.out, hu0]; rfl)
   clear hz hd hu0
   by_cases hN0 : N = 0
   ·have he := isEmpty_yes (s := t) (by rw [<- bts_length, hdn.out, hN0]; rfl)
    have hgf : Hid (g = false) := Lib.hid (by rw [<- HG.out]; apply decide_eq_false; have := HN.out; omega)
    have HN0 := Lib.hid hN0
    clear hN0
    go_wp2_with (first | (refine wl_storeA b2 rfl _ _ rfl rfl rfl (by kernel_rfl) rfl rfl rfl (fun W8 b8 hg => ?_); have hB8 := below_far hB hB.size (Nat.le_refl _) hg; clear hg))
    exact bodyPost_ret (res_cell rfl b8 (by kernel_rfl) rfl) rfl ⟨by rw [hgf.out, HN0.out]; rfl, hB8⟩
   ·have he := isEmpty_no (s := t) (by rw [<- bts_length, hdn.out, dz, if_neg hN0]; exact Dc.digs_pos N)
    have HT : Hid (t = str (Dc.digs N)) := Lib.hid (by rw [<- str_bts t, hdn.out, dz, if_neg hN0])
    clear hN0
    go_wp2_with (first | (refine wl_storeA b2 rfl _ _ rfl rfl rfl (by kernel_rfl) rfl rfl rfl (fun W8 b8 hg => ?_); have hB8 := below_far hB hB.size (Nat.le_refl _) hg; clear hg))
    exact bodyPost_ret (res_cell rfl b8 (by kernel_rfl) rfl) rfl ⟨by rw [<- HT.out, <- HG.out], hB8⟩
  ·have dne : (z != 0) = true := bne_iff_ne.2 hz0
   have hun : u ≠ 0 := by have := hz.out; omega
   have hr := Rnd.mk_ z u hz.out
   obtain ⟨y, hy⟩ : ∃ y, z.tmod 10 = y := ⟨_, rfl⟩
   obtain ⟨z2, hz2⟩ : ∃ z2, z.tdiv 10 = z2 := ⟨_, rfl⟩
   obtain ⟨x, hx⟩ : ∃ x, u % 10 = x := ⟨_, rfl⟩
   rw [hy, hz2, hx] at hr
   obtain ⟨c, hc⟩ : ∃ c : Nat, 48 + x = c := ⟨_, rfl⟩
   have hxl : x <= 9 := by omega
   have hya := hr.ev
   have e2 := hr.eq2
   have ez := hr.ez
   have ci : (48 : Int) + (x : Int) = (c : Int) := by omega
   have w8 : IntKind.u8.wrap (c : Int) = (c : Int) := by rw [IntKind.wrap_u8]; omega
   have es : (convert 79 9 (.slice (some ⟨wr.heap.size, 0, none⟩) 1 1)).run Tryz.prog (wr.alloc (.cells #[.int .u8 (c : Int)] 5)) = .ok (.string (str [c])) (wr.alloc (.cells #[.int .u8 (c : Int)] 5)) := run_str_new wr [(c : Int)] 1
   have hcs : (str [c]).size <= 1 := Nat.le_of_eq (str_size _)
   have z20 : -9223372036854775808 <= z2 := by omega
   have z21 : z2 <= 9223372036854775807 := by omega
   have hd2 : Hid (dz N = dz (u / 10) ++ bts (str [c] ++ t)) := Lib.hid (by
    rw [hd.out, dz_step hun, hx, hc, str_add, bts_str [c] (by simp; omega), List.append_assoc])
   have hlen : Hid ((str [c] ++ t).size <= 20) := Lib.hid (by
    have := congrArg List.length hd2.out
    have h3 := dz_small hNl.out
    rw [List.length_append, bts_length] at this; omega)
   have hm : Hid (z2.natAbs = u / 10) := Lib.hid e2
   have hmeas : Hid (z2.natAbs < z.natAbs) := Lib.hid (by rw [e2, ez]; omega)
   have y0 : -9 <= y := by omega
   have y9 : y <= 9 := by omega
   by_cases hyn : y < 0
   ·have dy : decide (y < 0) = true := decide_eq_true hyn
    have ny : -y = (x : Int) := by omega
    clear hr hz hd hun hc hx hya e2 ez hz0 hyn
    go_wp2
    go_roundw
    case rel => exact ⟨z2, u / 10, _, rfl, rfl, z20, z21, hlen.out, hm, hd2, b2.old _, hB.alloc hB.size _⟩
    case measure => simp only [intOf]; exact hmeas.out
   ·have dy : decide (y < 0) = false := decide_eq_false hyn
    obtain rfl : y = (x : Int) := by omega
    clear hr hz hd hun hc hx hya e2 ez hz0 hyn
    go_wp2
    go_roundw
    case rel => exact ⟨z2, u / 10, _, rfl, rfl, z20, z21, hlen.out, hm, hd2, b2.old _, hB.alloc hB.size _⟩
    case measure => simp only [intOf]; exact hmeas.out
end Go.Proofs.YthoojcdjjecogaaGreatDoor
