/-
  What DecimalRounds returns: true. Condition: the variables that the program's text lays.
-/
import Derived.Test.YthmmjihldkjhhaaGreatDoorLshown
import Derived.Test.YthmmjihldkjhhaaGreatDoorRround
namespace Go.Proofs.YthmmjihldkjhhaaGreatDoor
open Go Go.RowKit

set_option maxRecDepth 100000 in
set_option maxHeartbeats 16000000 in
theorem rounds_long (n : Bool) (s : ByteArray) (S : Int) (m : Bool) (t : ByteArray) (U : Int) (K : Int) (hs : s.size ≤ maxLen) (h1 : 400 < s.size) (w : World) (hG : Good w) : Calls Tryz.prog 4 #[.agg #[.bool n, .string s, .int .i64 S], .agg #[.bool m, .string t, .int .i64 U], .int .i64 K] w fun e w' => e = .returned (.bool true) ∧ Below w.heap.size w w' := by
  have HG := Lib.hid hG
  unfold maxLen at hs
  have d1 : decide (400 < (s.size : Int)) = true := decide_eq_true (by omega)
  clear h1
  clear hG
  go_enter Tryz.func4, Tryz.ntmps4
  go_wp2_with (first
    | (refine wl_boxA rfl (.tmp 0) rfl rfl (fun W2 b2 hb => ?_); have l2 := b2.lt; have hB := hb; clear hb)
    | (refine wl_boxA rfl (.tmp 1) rfl rfl (fun W2 b3 hb => ?_); have l3 := b3.lt; have l33 := hB.size; replace b2 := b2.keep hb; replace hB := below_step hB hb; clear hb)
    | (refine wl_loadC b2 rfl (by kernel_rfl) _ rfl (j := 1) rfl rfl ?_)
    | (refine wl_loadC b3 rfl (by kernel_rfl) _ rfl (j := 1) rfl rfl ?_)
    | (go_at_call 8; refine (shown_true _ (HG.out.next hB)).mono ?_; rintro e W3 ⟨rfl, hb⟩; replace hB := below_step hB hb; clear hb))
  go_ret
  go_light
  exact ⟨rfl, hB⟩
set_option maxRecDepth 100000 in
set_option maxHeartbeats 16000000 in
theorem rounds_long2 (n : Bool) (s : ByteArray) (S : Int) (m : Bool) (t : ByteArray) (U : Int) (K : Int) (ht : t.size ≤ maxLen) (h1 : s.size ≤ 400) (h2 : 400 < t.size) (w : World) (hG : Good w) : Calls Tryz.prog 4 #[.agg #[.bool n, .string s, .int .i64 S], .agg #[.bool m, .string t, .int .i64 U], .int .i64 K] w fun e w' => e = .returned (.bool true) ∧ Below w.heap.size w w' := by
  have HG := Lib.hid hG
  unfold maxLen at ht
  have d1 : decide (400 < (s.size : Int)) = false := decide_eq_false (by omega)
  have d2 : decide (400 < (t.size : Int)) = true := decide_eq_true (by omega)
  clear h1 h2
  clear hG
  go_enter Tryz.func4, Tryz.ntmps4
  go_wp2_with (first
    | (refine wl_boxA rfl (.tmp 0) rfl rfl (fun W2 b2 hb => ?_); have l2 := b2.lt; have hB := hb; clear hb)
    | (refine wl_boxA rfl (.tmp 1) rfl rfl (fun W2 b3 hb => ?_); have l3 := b3.lt; have l33 := hB.size; replace b2 := b2.keep hb; replace hB := below_step hB hb; clear hb)
    | (refine wl_loadC b2 rfl (by kernel_rfl) _ rfl (j := 1) rfl rfl ?_)
    | (refine wl_loadC b3 rfl (by kernel_rfl) _ rfl (j := 1) rfl rfl ?_)
    | (go_at_call 8; refine (shown_true _ (HG.out.next hB)).mono ?_; rintro e W3 ⟨rfl, hb⟩; replace hB := below_step hB hb; clear hb))
  go_ret
  go_light
  exact ⟨rfl, hB⟩
set_option maxRecDepth 100000 in
set_option maxHeartbeats 16000000 in
theorem rounds_short (n : Bool) (s : ByteArray) (S : Int) (m : Bool) (t : ByteArray) (U : Int) (K : Int) (h1 : s.size ≤ 400) (h2 : t.size ≤ 400) (w : World) (hG : Good w) : Calls Tryz.prog 4 #[.agg #[.bool n, .string s, .int .i64 S], .agg #[.bool m, .string t, .int .i64 U], .int .i64 K] w fun e w' => e = .returned (.bool true) ∧ Below w.heap.size w w' := by
  have HG := Lib.hid hG
  have d1 : decide (400 < (s.size : Int)) = false := decide_eq_false (by omega)
  have d2 : decide (400 < (t.size : Int)) = false := decide_eq_false (by omega)
  have hs1 : s.size ≤ 1000000 := by omega
  have ht1 : t.size ≤ 1000000 := by omega
  obtain ⟨r1, e1⟩ : ∃ r, divR n s S m t U K = r := ⟨_, rfl⟩
  have p1 := Lib.hid (pdiv_is n s S m t U K hs1 ht1 r1 e1)
  have q1 := Lib.hid (rdiv_is n s S m t U K hs1 ht1 r1 e1)
  clear e1
  obtain ⟨r2, e2⟩ : ∃ r, roundR n s S K = r := ⟨_, rfl⟩
  have p2 := Lib.hid (pround_is n s S K hs1 r2 e2)
  have q2 := Lib.hid (rround_is n s S K hs1 r2 e2)
  clear e2
  obtain ⟨x, y, k, e5⟩ : ∃ x y k, countR n s S = (x, y, k) := ⟨_, _, _, rfl⟩
  have p5 := Lib.hid (pdigits_is n s S hs1 x y k e5)
  have q5 := Lib.hid (rdigits_is n s S hs1 x y k e5)
  obtain ⟨n1, s1, S1, k1⟩ := r1
  obtain ⟨n2, s2, S2, k2⟩ := r2
  simp only at p1 q1 p2 q2
  clear e5 h1 h2
  have tok5 : True := trivial
  have tok7 : True := trivial
  clear hG
  go_enter Tryz.func4, Tryz.ntmps4
  go_wp2_with (first
    | (refine wl_boxA rfl (.tmp 0) rfl rfl (fun W2 b2 hb => ?_); have l2 := b2.lt; have hB := hb; clear hb)
    | (refine wl_boxA rfl (.tmp 1) rfl rfl (fun W2 b3 hb => ?_); have l3 := b3.lt; have l33 := hB.size; replace b2 := b2.keep hb; replace hB := below_step hB hb; clear hb)
    | (refine wl_loadC b2 rfl (by kernel_rfl) _ rfl (j := 1) rfl rfl ?_)
    | (refine wl_loadC b3 rfl (by kernel_rfl) _ rfl (j := 1) rfl rfl ?_)
    | (refine wl_loadA (ty := 23) b2 rfl (by kernel_rfl) _ rfl rfl ?_)
    | (refine wl_loadA (ty := 23) b3 rfl (by kernel_rfl) _ rfl rfl ?_)
    | (refine wl_loadA (ty := 23) b5 rfl (by kernel_rfl) _ rfl rfl ?_)
    | (refine wl_loadA (ty := 23) b7 rfl (by kernel_rfl) _ rfl rfl ?_)
    | (go_at_call 17; refine (p1.out _ (HG.out.next hB).pow).mono ?_; rintro e W3 ⟨rfl, hb⟩; replace hB := below_step hB hb; (try replace b2 := b2.keep hb); (try replace b3 := b3.keep hb); (try replace b5 := b5.keep hb); (try replace b7 := b7.keep hb); clear hb)
    | (go_at_call 18; refine (q1.out _).mono ?_; rintro e W3 ⟨rfl, hb⟩; replace hB := below_step hB hb; (try replace b2 := b2.keep hb); (try replace b3 := b3.keep hb); (try replace b5 := b5.keep hb); (try replace b7 := b7.keep hb); clear hb)
    | (go_at_call 19; refine (p2.out _ (HG.out.next hB).pow).mono ?_; rintro e W3 ⟨rfl, hb⟩; replace hB := below_step hB hb; (try replace b2 := b2.keep hb); (try replace b3 := b3.keep hb); (try replace b5 := b5.keep hb); (try replace b7 := b7.keep hb); clear hb)
    | (go_at_call 20; refine (q2.out _).mono ?_; rintro e W3 ⟨rfl, hb⟩; replace hB := below_step hB hb; (try replace b2 := b2.keep hb); (try replace b3 := b3.keep hb); (try replace b5 := b5.keep hb); (try replace b7 := b7.keep hb); clear hb)
    | (go_at_call 21; refine (p5.out _).mono ?_; rintro e W3 ⟨rfl, hb⟩; replace hB := below_step hB hb; (try replace b2 := b2.keep hb); (try replace b3 := b3.keep hb); (try replace b5 := b5.keep hb); (try replace b7 := b7.keep hb); clear hb)
    | (go_at_call 22; refine (q5.out _).mono ?_; rintro e W3 ⟨rfl, hb⟩; replace hB := below_step hB hb; (try replace b2 := b2.keep hb); (try replace b3 := b3.keep hb); (try replace b5 := b5.keep hb); (try replace b7 := b7.keep hb); clear hb)
    | (have _t := tok5; refine wl_allocA rfl zero_dec rfl (fun W2 b5 hb => ?_); have l5 := b5.lt; have l55 := hB.size; have a5 := b2.lt; (try have a55 := b3.lt); replace hB := below_step hB hb; (try replace b2 := b2.keep hb); (try replace b3 := b3.keep hb); (try replace b7 := b7.keep hb); clear hb tok5 _t)
    | (have _t := tok7; refine wl_allocA rfl zero_dec rfl (fun W2 b7 hb => ?_); have l7 := b7.lt; have l77 := hB.size; have a7 := b2.lt; (try have a77 := b3.lt); have a777 := b5.lt; replace hB := below_step hB hb; (try replace b2 := b2.keep hb); (try replace b3 := b3.keep hb); (try replace b5 := b5.keep hb); clear hb tok7 _t)
    | (refine wl_storeA b5 rfl _ _ rfl rfl rfl (by kernel_rfl) rfl rfl rfl (fun W2 bb hg => ?_); (try replace b2 := b2.far hg (by omega)); (try replace b3 := b3.far hg (by omega)); (try replace b7 := b7.far hg (by omega)); replace hB := below_far hB hB.size (by omega) hg; replace b5 := bb; clear hg bb)
    | (refine wl_storeA b7 rfl _ _ rfl rfl rfl (by kernel_rfl) rfl rfl rfl (fun W2 bb hg => ?_); (try replace b2 := b2.far hg (by omega)); (try replace b3 := b3.far hg (by omega)); (try replace b5 := b5.far hg (by omega)); replace hB := below_far hB hB.size (by omega) hg; replace b7 := bb; clear hg bb)
    | (go_at_call 8; refine (shown_true _ (HG.out.next hB)).mono ?_; rintro e W3 ⟨rfl, hb⟩; replace hB := below_step hB hb; clear hb))
  go_ret
  go_light
  exact ⟨rfl, hB⟩
theorem rounds_any (n : Bool) (s : ByteArray) (S : Int) (m : Bool) (t : ByteArray) (U : Int) (K : Int) (hs : s.size ≤ maxLen) (ht : t.size ≤ maxLen) (w : World) (hG : Good w) : Calls Tryz.prog 4 #[.agg #[.bool n, .string s, .int .i64 S], .agg #[.bool m, .string t, .int .i64 U], .int .i64 K] w fun e w' => e = .returned (.bool true) ∧ Below w.heap.size w w' := by
  by_cases h1 : 400 < s.size
  · exact rounds_long n s S m t U K hs h1 w hG
  · by_cases h2 : 400 < t.size
    · exact rounds_long2 n s S m t U K ht (by omega) h2 w hG
    · exact rounds_short n s S m t U K (by omega) (by omega) w hG
end Go.Proofs.YthmmjihldkjhhaaGreatDoor
