/-
  What DecimalTexts returns: true. Condition: the variables that the program's text lays.
-/
import Derived.Test.YthmmjihldkjhhaaGreatDoorLshown
import Derived.Test.YthmmjihldkjhhaaGreatDoorRsum
import Derived.Test.YthmmjihldkjhhaaGreatDoorPof
namespace Go.Proofs.YthmmjihldkjhhaaGreatDoor
open Go Go.RowKit


theorem dz_step {u : Nat} (h : u ≠ 0) : dz u = dz (u / 10) ++ [48 + u % 10] := by
  unfold dz
  rw [if_neg h]
  by_cases h10 : u < 10
  · rw [if_pos (by omega), Dc.digs_low h10, Nat.mod_eq_of_lt h10]; rfl
  · rw [if_neg (by omega), Dc.digs_step (by omega)]
theorem dz_small {u : Nat} (h : u ≤ 9223372036854775808) : (dz u).length ≤ 20 := by
  unfold dz
  split
  · exact Nat.zero_le _
  · exact (Dc.digs_length (by decide)).2 (Nat.lt_of_le_of_lt h (by decide))
/-- One round of Of: the digit, what is left. -/
structure Rnd (z y : Int) (v : Nat) (z2 : Int) (u : Nat) : Prop where
  ez : z.natAbs = u
  ey : z.tmod 10 = y
  ev : y.natAbs = v
  eq0 : z.tdiv 10 = z2
  eq : u % 10 = v
  eq2 : z2.natAbs = u / 10
theorem Rnd.mk_ (z : Int) (u : Nat) (h : z.natAbs = u) : Rnd z (z.tmod 10) (u % 10) (z.tdiv 10) u := by
  refine ⟨h, rfl, ?_, rfl, rfl, ?_⟩
  · rw [Int.natAbs_tmod, h]; rfl
  · rw [Int.natAbs_tdiv, h]; rfl
set_option maxRecDepth 100000 in
set_option maxHeartbeats 4000000 in
theorem rOf_any (n : Int) (h0 : -9223372036854775808 ≤ n) (h1 : n ≤ 9223372036854775807) (w : World) : Calls Tryz.prog 16 #[.int .i64 n] w fun e w' => e = .returned (.agg #[.bool (decide (n < 0)), .string (str (Dc.digs n.natAbs)), .int .i64 0]) ∧ Below w.heap.size w w' := by
  obtain ⟨N, hN⟩ : ∃ N, n.natAbs = N := ⟨_, rfl⟩
  have hNl : Hid (N ≤ 9223372036854775808) := Lib.hid (by omega)
  have HN := Lib.hid hN
  rw [hN]
  obtain ⟨g, hg0⟩ : ∃ g, decide (n < 0) = g := ⟨_, rfl⟩
  rw [hg0]
  have HG := Lib.hid hg0
  clear hN
  go_enter Tryz.func16, Tryz.ntmps16
  go_wp2_with (first | (refine wl_allocA rfl zero_dec rfl (fun W2 b2 hb => ?_); have hB := hb; clear hb))
  go_loopw [3, 4] (fun v k wr => ∃ (z : Int) (u : Nat) (t : ByteArray), k = .int .i64 z ∧ v = .string t ∧ -9223372036854775808 ≤ z ∧ z ≤ 9223372036854775807 ∧ t.size ≤ 20 ∧ Hid (z.natAbs = u) ∧ Hid (dz N = dz u ++ bts t) ∧ Blk wr w.heap.size 23 #[.bool false, .string ⟨#[]⟩, .int .i64 0] ∧ Below w.heap.size w wr) (fun _ k _ => (intOf k).natAbs)
  case atStart => exact ⟨n, N, ⟨#[]⟩, rfl, rfl, h0, h1, by decide, HN, Lib.hid (by simp [bts]), b2, hB⟩
  case round =>
    clear b2 hB
    obtain ⟨z, u, t, rfl, rfl, z0, z1, ht, hz, hd, b2, hB⟩ := hrel
    by_cases hz0 : z = 0
    · subst hz0
      have hu0 : u = 0 := by have := hz.out; simpa using this.symm
      have hdn : Hid (bts t = dz N) := Lib.hid (by rw [hd.out, hu0]; rfl)
      clear hz hd hu0
      by_cases hN0 : N = 0
      · have he := isEmpty_yes (s := t) (by rw [← bts_length, hdn.out, hN0]; rfl)
        have hgf : Hid (g = false) := Lib.hid (by rw [← HG.out]; apply decide_eq_false; have := HN.out; omega)
        have HN0 := Lib.hid hN0
        clear hN0
        go_wp2_with (first | (refine wl_storeA b2 rfl _ _ rfl rfl rfl (by kernel_rfl) rfl rfl rfl (fun W8 b8 hg => ?_); have hB8 := below_far hB hB.size (Nat.le_refl _) hg; clear hg))
        exact bodyPost_ret (res_cell rfl b8 (by kernel_rfl) rfl) rfl ⟨by rw [hgf.out, HN0.out]; rfl, hB8⟩
      · have he := isEmpty_no (s := t) (by rw [← bts_length, hdn.out, dz, if_neg hN0]; exact Dc.digs_pos N)
        have HT : Hid (t = str (Dc.digs N)) := Lib.hid (by rw [← str_bts t, hdn.out, dz, if_neg hN0])
        clear hN0
        go_wp2_with (first | (refine wl_storeA b2 rfl _ _ rfl rfl rfl (by kernel_rfl) rfl rfl rfl (fun W8 b8 hg => ?_); have hB8 := below_far hB hB.size (Nat.le_refl _) hg; clear hg))
        exact bodyPost_ret (res_cell rfl b8 (by kernel_rfl) rfl) rfl ⟨by rw [← HT.out, ← HG.out], hB8⟩
    · have dne : (z != 0) = true := bne_iff_ne.2 hz0
      have hun : u ≠ 0 := by have := hz.out; omega
      have hr := Rnd.mk_ z u hz.out
      obtain ⟨y, hy⟩ : ∃ y, z.tmod 10 = y := ⟨_, rfl⟩
      obtain ⟨z2, hz2⟩ : ∃ z2, z.tdiv 10 = z2 := ⟨_, rfl⟩
      obtain ⟨x, hx⟩ : ∃ x, u % 10 = x := ⟨_, rfl⟩
      rw [hy, hz2, hx] at hr
      obtain ⟨c, hc⟩ : ∃ c : Nat, 48 + x = c := ⟨_, rfl⟩
      have hxl : x ≤ 9 := by omega
      have hya := hr.ev
      have e2 := hr.eq2
      have ez := hr.ez
      have ci : (48 : Int) + (x : Int) = (c : Int) := by omega
      have w8 : IntKind.u8.wrap (c : Int) = (c : Int) := by rw [IntKind.wrap_u8]; omega
      have es : (convert 58 9 (.slice (some ⟨wr.heap.size, 0, none⟩) 1 1)).run Tryz.prog (wr.alloc (.cells #[.int .u8 (c : Int)] 5)) = .ok (.string (str [c])) (wr.alloc (.cells #[.int .u8 (c : Int)] 5)) := run_str_new wr [(c : Int)] 1
      have hcs : (str [c]).size ≤ 1 := Nat.le_of_eq (str_size _)
      have z20 : -9223372036854775808 ≤ z2 := by omega
      have z21 : z2 ≤ 9223372036854775807 := by omega
      have hd2 : Hid (dz N = dz (u / 10) ++ bts (str [c] ++ t)) := Lib.hid (by
        rw [hd.out, dz_step hun, hx, hc, str_add, bts_str [c] (by simp; omega), List.append_assoc])
      have hlen : Hid ((str [c] ++ t).size ≤ 20) := Lib.hid (by
        have := congrArg List.length hd2.out
        have h3 := dz_small hNl.out
        rw [List.length_append, bts_length] at this; omega)
      have hm : Hid (z2.natAbs = u / 10) := Lib.hid e2
      have hmeas : Hid (z2.natAbs < z.natAbs) := Lib.hid (by rw [e2, ez]; omega)
      have y0 : -9 ≤ y := by omega
      have y9 : y ≤ 9 := by omega
      by_cases hyn : y < 0
      · have dy : decide (y < 0) = true := decide_eq_true hyn
        have ny : -y = (x : Int) := by omega
        clear hr hz hd hun hc hx hya e2 ez hz0 hyn
        go_wp2
        go_roundw
        case rel => exact ⟨z2, u / 10, _, rfl, rfl, z20, z21, hlen.out, hm, hd2, b2.old _, hB.alloc hB.size _⟩
        case measure => simp only [intOf]; exact hmeas.out
      · have dy : decide (y < 0) = false := decide_eq_false hyn
        obtain rfl : y = (x : Int) := by omega
        clear hr hz hd hun hc hx hya e2 ez hz0 hyn
        go_wp2
        go_roundw
        case rel => exact ⟨z2, u / 10, _, rfl, rfl, z20, z21, hlen.out, hm, hd2, b2.old _, hB.alloc hB.size _⟩
        case measure => simp only [intOf]; exact hmeas.out
set_option maxRecDepth 100000 in
set_option maxHeartbeats 16000000 in
theorem texts_long (n : Bool) (s : ByteArray) (S : Int) (t : ByteArray) (K : Int) (ht : t.size ≤ maxLen) (h1 : 400 < t.size) (w : World) (hG : Good w) : Calls Tryz.prog 3 #[.agg #[.bool n, .string s, .int .i64 S], .string t, .int .i64 K] w fun e w' => e = .returned (.bool true) ∧ Below w.heap.size w w' := by
  have HG := Lib.hid hG
  unfold maxLen at ht
  have d1 : decide (400 < (t.size : Int)) = true := decide_eq_true (by omega)
  clear h1
  clear hG
  go_enter Tryz.func3, Tryz.ntmps3
  go_wp2_with (first
    | (refine wl_boxA rfl (.tmp 0) rfl rfl (fun W2 b2 hb => ?_); have l2 := b2.lt; have hB := hb; clear hb)
    | (refine wl_loadC b2 rfl (by kernel_rfl) _ rfl (j := 1) rfl rfl ?_)
    | (go_at_call 8; refine (shown_true _ (HG.out.next hB)).mono ?_; rintro e W3 ⟨rfl, hb⟩; replace hB := below_step hB hb; clear hb))
  go_ret
  go_light
  exact ⟨rfl, hB⟩
set_option maxRecDepth 100000 in
set_option maxHeartbeats 16000000 in
theorem texts_long2 (n : Bool) (s : ByteArray) (S : Int) (t : ByteArray) (K : Int) (hs : s.size ≤ maxLen) (h1 : t.size ≤ 400) (h2 : 400 < s.size) (w : World) (hG : Good w) : Calls Tryz.prog 3 #[.agg #[.bool n, .string s, .int .i64 S], .string t, .int .i64 K] w fun e w' => e = .returned (.bool true) ∧ Below w.heap.size w w' := by
  have HG := Lib.hid hG
  unfold maxLen at hs
  have d1 : decide (400 < (t.size : Int)) = false := decide_eq_false (by omega)
  have d2 : decide (400 < (s.size : Int)) = true := decide_eq_true (by omega)
  clear h1 h2
  clear hG
  go_enter Tryz.func3, Tryz.ntmps3
  go_wp2_with (first
    | (refine wl_boxA rfl (.tmp 0) rfl rfl (fun W2 b2 hb => ?_); have l2 := b2.lt; have hB := hb; clear hb)
    | (refine wl_loadC b2 rfl (by kernel_rfl) _ rfl (j := 1) rfl rfl ?_)
    | (go_at_call 8; refine (shown_true _ (HG.out.next hB)).mono ?_; rintro e W3 ⟨rfl, hb⟩; replace hB := below_step hB hb; clear hb))
  go_ret
  go_light
  exact ⟨rfl, hB⟩
set_option maxRecDepth 100000 in
set_option maxHeartbeats 16000000 in
theorem texts_short (n : Bool) (s : ByteArray) (S : Int) (t : ByteArray) (K : Int) (h1 : t.size ≤ 400) (h2 : s.size ≤ 400) (hK0 : -9223372036854775808 ≤ K) (hK1 : K ≤ 9223372036854775807) (w : World) (hG : Good w) : Calls Tryz.prog 3 #[.agg #[.bool n, .string s, .int .i64 S], .string t, .int .i64 K] w fun e w' => e = .returned (.bool true) ∧ Below w.heap.size w w' := by
  have HG := Lib.hid hG
  have d1 : decide (400 < (t.size : Int)) = false := decide_eq_false (by omega)
  have d2 : decide (400 < (s.size : Int)) = false := decide_eq_false (by omega)
  have hs1 : s.size ≤ 1000000 := by omega
  obtain ⟨r1, e1⟩ : ∃ r, readR (bts t) = r := ⟨_, rfl⟩
  have p1 := Lib.hid (pread_is t h1 r1 e1)
  have q1 := Lib.hid (rread_is t h1 r1 e1)
  clear e1
  obtain ⟨u, k, e2⟩ : ∃ u k, textR n s S = (u, k) := ⟨_, _, rfl⟩
  have p2 := Lib.hid (ptext_is n s S hs1 u k e2)
  have q2 := Lib.hid (rtext_is n s S hs1 u k e2)
  obtain ⟨c, e3⟩ : ∃ c, ckI n s S = c := ⟨_, rfl⟩
  have p3 := Lib.hid (pcheck_r n s S hs1 c e3)
  have q3 := Lib.hid (rcheck_r n s S hs1 c e3)
  obtain ⟨l, e4⟩ : ∃ l, str (Dc.digs K.natAbs) = l := ⟨_, rfl⟩
  obtain ⟨z, e5⟩ : ∃ z, decide (K < 0) = z := ⟨_, rfl⟩
  have p4 := Lib.hid (pOf_any K hK0 hK1)
  have q4 := Lib.hid (rOf_any K hK0 hK1)
  rw [e4, e5] at p4 q4
  obtain ⟨n1, s1, S1, k1⟩ := r1
  simp only at p1 q1
  clear e2 e3 e4 e5 h1 h2
  have tok5 : True := trivial
  have tok7 : True := trivial
  clear hG
  go_enter Tryz.func3, Tryz.ntmps3
  go_upto_region 7 with (first
    | (refine wl_boxA rfl (.tmp 0) rfl rfl (fun W2 b2 hb => ?_); have l2 := b2.lt; have hB := hb; clear hb)
    | (refine wl_loadC b2 rfl (by kernel_rfl) _ rfl (j := 1) rfl rfl ?_)
    | (refine wl_loadA (ty := 23) b2 rfl (by kernel_rfl) _ rfl rfl ?_)
    | (refine wl_loadA (ty := 23) b3 rfl (by kernel_rfl) _ rfl rfl ?_)
    | (refine wl_loadA (ty := 23) b5 rfl (by kernel_rfl) _ rfl rfl ?_)
    | (refine wl_loadA (ty := 23) b7 rfl (by kernel_rfl) _ rfl rfl ?_)
    | (go_at_call 9; refine (p1.out _ (HG.out.next hB)).mono ?_; rintro e W5 ⟨rfl, hb⟩; replace hB := below_step hB hb; (try replace b2 := b2.keep hb); (try replace b3 := b3.keep hb); (try replace b5 := b5.keep hb); (try replace b7 := b7.keep hb); clear hb)
    | (go_at_call 10; refine (q1.out _).mono ?_; rintro e W7 ⟨rfl, hb⟩; replace hB := below_step hB hb; (try replace b2 := b2.keep hb); (try replace b3 := b3.keep hb); (try replace b5 := b5.keep hb); (try replace b7 := b7.keep hb); clear hb)
    | (go_at_call 11; refine (p2.out _).mono ?_; rintro e W8 ⟨rfl, hb⟩; replace hB := below_step hB hb; (try replace b2 := b2.keep hb); (try replace b3 := b3.keep hb); (try replace b5 := b5.keep hb); (try replace b7 := b7.keep hb); clear hb)
    | (go_at_call 12; refine (q2.out _).mono ?_; rintro e W9 ⟨rfl, hb⟩; replace hB := below_step hB hb; (try replace b2 := b2.keep hb); (try replace b3 := b3.keep hb); (try replace b5 := b5.keep hb); (try replace b7 := b7.keep hb); clear hb)
    | (have _t := tok5; refine wl_allocA rfl zero_dec rfl (fun W2 b5 hb => ?_); have l5 := b5.lt; have l55 := hB.size; have a5 := b2.lt; (try have a55 := b3.lt); replace hB := below_step hB hb; (try replace b2 := b2.keep hb); (try replace b3 := b3.keep hb); (try replace b7 := b7.keep hb); clear hb tok5 _t)
    | (have _t := tok7; refine wl_allocA rfl zero_dec rfl (fun W2 b7 hb => ?_); have l7 := b7.lt; have l77 := hB.size; have a7 := b2.lt; (try have a77 := b3.lt); have a777 := b5.lt; replace hB := below_step hB hb; (try replace b2 := b2.keep hb); (try replace b3 := b3.keep hb); (try replace b5 := b5.keep hb); clear hb tok7 _t)
    | (refine wl_storeA b5 rfl _ _ rfl rfl rfl (by kernel_rfl) rfl rfl rfl (fun W2 bb hg => ?_); (try replace b2 := b2.far hg (by omega)); (try replace b3 := b3.far hg (by omega)); (try replace b7 := b7.far hg (by omega)); replace hB := below_far hB hB.size (by omega) hg; replace b5 := bb; clear hg bb)
    | (refine wl_storeA b7 rfl _ _ rfl rfl rfl (by kernel_rfl) rfl rfl rfl (fun W2 bb hg => ?_); (try replace b2 := b2.far hg (by omega)); (try replace b3 := b3.far hg (by omega)); (try replace b5 := b5.far hg (by omega)); replace hB := below_far hB hB.size (by omega) hg; replace b7 := bb; clear hg bb))
  refine wp_region_held_drew (S := fun W : World => Below w.heap.size w W ∧ Blk W w.heap.size 23 #[.bool n, .string s, .int .i64 S] ∧ Blk W W5.heap.size 23 #[.bool n1, .string s1, .int .i64 S1] ∧ Blk W W7.heap.size 23 #[.bool n1, .string s1, .int .i64 S1]) (by kernel_rfl) ⟨below_step hB (below_drew _), b2.drew, b5.drew, b7.drew⟩ (fun hS => ?_)
  refine takeH (i := 0) (d := some 45) (v := _) rfl rfl (by kernel_rfl) (by kernel_rfl) (by kernel_rfl) (fun _ _ _ h => h) (yields_A rfl (by rfl) (by kernel_rfl) _ rfl rfl (fun W hW => hW.2.1)) hS ?_
  simp only [Act.put, List.setIfInBounds_toArray, List.set_cons_zero, List.set_cons_succ]
  refine takeH (i := 2) (d := some 47) (v := _) rfl rfl (by kernel_rfl) (by kernel_rfl) (by kernel_rfl) (fun _ _ _ h => h) (yields_A rfl (by rfl) (by kernel_rfl) _ rfl rfl (fun W hW => hW.2.1)) hS ?_
  simp only [Act.put, List.setIfInBounds_toArray, List.set_cons_zero, List.set_cons_succ]
  refine wpAnyH_ready (rs := [1]) (by kernel_rfl) (by simp) ?_
  refine AllReadyH.cons rfl (fun Kc hKc => ?_) AllReadyH.nil
  go_simp
  refine (p3.out _).mono ?_
  rintro e W11 ⟨rfl, hb⟩
  refine hKc.out _ _ ⟨below_step hS.1 hb, hS.2.1.keep hb, hS.2.2.1.keep hb, hS.2.2.2.keep hb⟩ (fun hS => ?_)
  clear hKc Kc
  refine wpAnyH_ready (rs := [3]) (by kernel_rfl) (by simp) ?_
  refine AllReadyH.cons rfl (fun Kc hKc => ?_) AllReadyH.nil
  go_simp
  refine (q3.out _).mono ?_
  rintro e W12 ⟨rfl, hb⟩
  refine hKc.out _ _ ⟨below_step hS.1 hb, hS.2.1.keep hb, hS.2.2.1.keep hb, hS.2.2.2.keep hb⟩ (fun hS => ?_)
  clear hKc Kc
  refine takeH (i := 4) (d := some 49) (v := .bool true) rfl rfl (by kernel_rfl) (by kernel_rfl) (by kernel_rfl) (fun _ _ _ h => h) (Or.inl ⟨by rfl, ?h1⟩) hS ?_
  case h1 => intro W _; go_simp; try with_reducible rfl
  simp only [Act.put, List.setIfInBounds_toArray, List.set_cons_zero, List.set_cons_succ]
  refine takeH (i := 5) (d := some 50) (v := ?v2) rfl rfl (by kernel_rfl) (by kernel_rfl) (by kernel_rfl) (fun _ _ _ h => h) (Or.inl ⟨by rfl, ?h2⟩) hS ?_
  case h2 => intro W _; go_simp; try with_reducible rfl
  simp only [Act.put, List.setIfInBounds_toArray, List.set_cons_zero, List.set_cons_succ]
  refine takeH (i := 6) (d := some 51) (v := _) rfl rfl (by kernel_rfl) (by kernel_rfl) (by kernel_rfl) (fun _ _ _ h => h) (yields_A rfl (by rfl) (by kernel_rfl) _ rfl rfl (fun W hW => hW.2.2.1)) hS ?_
  simp only [Act.put, List.setIfInBounds_toArray, List.set_cons_zero, List.set_cons_succ]
  refine takeH (i := 7) (d := some 52) (v := _) rfl rfl (by kernel_rfl) (by kernel_rfl) (by kernel_rfl) (fun _ _ _ h => h) (yields_A rfl (by rfl) (by kernel_rfl) _ rfl rfl (fun W hW => hW.2.2.2)) hS ?_
  simp only [Act.put, List.setIfInBounds_toArray, List.set_cons_zero, List.set_cons_succ]
  refine takeH (i := 8) (d := some 53) (v := .bool true) rfl rfl (by kernel_rfl) (by kernel_rfl) (by kernel_rfl) (fun _ _ _ h => h) (Or.inl ⟨by rfl, ?h3⟩) hS ?_
  case h3 => intro W _; go_simp; try with_reducible rfl
  simp only [Act.put, List.setIfInBounds_toArray, List.set_cons_zero, List.set_cons_succ]
  refine takeH (i := 9) (d := some 54) (v := ?v4) rfl rfl (by kernel_rfl) (by kernel_rfl) (by kernel_rfl) (fun _ _ _ h => h) (Or.inl ⟨by rfl, ?h4⟩) hS ?_
  case h4 => intro W _; go_simp; try with_reducible rfl
  simp only [Act.put, List.setIfInBounds_toArray, List.set_cons_zero, List.set_cons_succ]
  refine takeH (i := 10) (d := some 55) (v := ?v5) rfl rfl (by kernel_rfl) (by kernel_rfl) (by kernel_rfl) (fun _ _ _ h => h) (Or.inl ⟨by rfl, ?h5⟩) hS ?_
  case h5 => intro W _; go_simp; try with_reducible rfl
  simp only [Act.put, List.setIfInBounds_toArray, List.set_cons_zero, List.set_cons_succ]
  refine takeH (i := 11) (d := some 56) (v := ?v6) rfl rfl (by kernel_rfl) (by kernel_rfl) (by kernel_rfl) (fun _ _ _ h => h) (Or.inl ⟨by rfl, ?h6⟩) hS ?_
  case h6 => intro W _; go_simp; try with_reducible rfl
  simp only [Act.put, List.setIfInBounds_toArray, List.set_cons_zero, List.set_cons_succ]
  refine takeH (i := 12) (d := some 57) (v := ?v7) rfl rfl (by kernel_rfl) (by kernel_rfl) (by kernel_rfl) (fun _ _ _ h => h) (Or.inl ⟨by rfl, ?h7⟩) hS ?_
  case h7 => intro W _; go_simp; try with_reducible rfl
  simp only [Act.put, List.setIfInBounds_toArray, List.set_cons_zero, List.set_cons_succ]
  refine takeH (i := 13) (d := some 58) (v := .bool true) rfl rfl (by kernel_rfl) (by kernel_rfl) (by kernel_rfl) (fun _ _ _ h => h) (Or.inl ⟨by rfl, ?h8⟩) hS ?_
  case h8 => intro W _; go_simp; try with_reducible rfl
  simp only [Act.put, List.setIfInBounds_toArray, List.set_cons_zero, List.set_cons_succ]
  refine takeH (i := 14) (d := some 59) (v := ?v9) rfl rfl (by kernel_rfl) (by kernel_rfl) (by kernel_rfl) (fun _ _ _ h => h) (Or.inl ⟨by rfl, ?h9⟩) hS ?_
  case h9 => intro W _; go_simp; try with_reducible rfl
  simp only [Act.put, List.setIfInBounds_toArray, List.set_cons_zero, List.set_cons_succ]
  refine takeH (i := 15) (d := some 60) (v := ?v10) rfl rfl (by kernel_rfl) (by kernel_rfl) (by kernel_rfl) (fun _ _ _ h => h) (Or.inl ⟨by rfl, ?h10⟩) hS ?_
  case h10 => intro W _; go_simp; try with_reducible rfl
  simp only [Act.put, List.setIfInBounds_toArray, List.set_cons_zero, List.set_cons_succ]
  refine takeH (i := 16) (d := some 61) (v := ?v11) rfl rfl (by kernel_rfl) (by kernel_rfl) (by kernel_rfl) (fun _ _ _ h => h) (Or.inl ⟨by rfl, ?h11⟩) hS ?_
  case h11 => intro W _; go_simp; try with_reducible rfl
  simp only [Act.put, List.setIfInBounds_toArray, List.set_cons_zero, List.set_cons_succ]
  refine takeH (i := 17) (d := some 62) (v := ?v12) rfl rfl (by kernel_rfl) (by kernel_rfl) (by kernel_rfl) (fun _ _ _ h => h) (Or.inl ⟨by rfl, ?h12⟩) hS ?_
  case h12 => intro W _; go_simp; try with_reducible rfl
  simp only [Act.put, List.setIfInBounds_toArray, List.set_cons_zero, List.set_cons_succ]
  refine takeH (i := 18) (d := some 63) (v := .bool true) rfl rfl (by kernel_rfl) (by kernel_rfl) (by kernel_rfl) (fun _ _ _ h => h) (Or.inl ⟨by rfl, ?h13⟩) hS ?_
  case h13 => intro W _; go_simp; try with_reducible rfl
  simp only [Act.put, List.setIfInBounds_toArray, List.set_cons_zero, List.set_cons_succ]
  refine takeH (i := 19) (d := some 64) (v := ?v14) rfl rfl (by kernel_rfl) (by kernel_rfl) (by kernel_rfl) (fun _ _ _ h => h) (Or.inl ⟨by rfl, ?h14⟩) hS ?_
  case h14 => intro W _; go_simp; try with_reducible rfl
  simp only [Act.put, List.setIfInBounds_toArray, List.set_cons_zero, List.set_cons_succ]
  refine takeH (i := 20) (d := some 65) (v := ?v15) rfl rfl (by kernel_rfl) (by kernel_rfl) (by kernel_rfl) (fun _ _ _ h => h) (Or.inl ⟨by rfl, ?h15⟩) hS ?_
  case h15 => intro W _; go_simp; try with_reducible rfl
  simp only [Act.put, List.setIfInBounds_toArray, List.set_cons_zero, List.set_cons_succ]
  refine takeH (i := 21) (d := some 66) (v := ?v16) rfl rfl (by kernel_rfl) (by kernel_rfl) (by kernel_rfl) (fun _ _ _ h => h) (Or.inl ⟨by rfl, ?h16⟩) hS ?_
  case h16 => intro W _; go_simp; try with_reducible rfl
  simp only [Act.put, List.setIfInBounds_toArray, List.set_cons_zero, List.set_cons_succ]
  refine takeH (i := 22) (d := some 67) (v := ?v17) rfl rfl (by kernel_rfl) (by kernel_rfl) (by kernel_rfl) (fun _ _ _ h => h) (Or.inl ⟨by rfl, ?h17⟩) hS ?_
  case h17 => intro W _; go_simp; try with_reducible rfl
  simp only [Act.put, List.setIfInBounds_toArray, List.set_cons_zero, List.set_cons_succ]
  refine takeH (i := 23) (d := some 68) (v := .bool true) rfl rfl (by kernel_rfl) (by kernel_rfl) (by kernel_rfl) (fun _ _ _ h => h) (Or.inl ⟨by rfl, ?h18⟩) hS ?_
  case h18 => intro W _; go_simp; try with_reducible rfl
  simp only [Act.put, List.setIfInBounds_toArray, List.set_cons_zero, List.set_cons_succ]
  refine takeH (i := 24) (d := some 69) (v := ?v19) rfl rfl (by kernel_rfl) (by kernel_rfl) (by kernel_rfl) (fun _ _ _ h => h) (Or.inl ⟨by rfl, ?h19⟩) hS ?_
  case h19 => intro W _; go_simp; try with_reducible rfl
  simp only [Act.put, List.setIfInBounds_toArray, List.set_cons_zero, List.set_cons_succ]
  refine takeH (i := 25) (d := some 70) (v := ?v20) rfl rfl (by kernel_rfl) (by kernel_rfl) (by kernel_rfl) (fun _ _ _ h => h) (Or.inl ⟨by rfl, ?h20⟩) hS ?_
  case h20 => intro W _; go_simp; try with_reducible rfl
  simp only [Act.put, List.setIfInBounds_toArray, List.set_cons_zero, List.set_cons_succ]
  refine takeH (i := 26) (d := some 71) (v := ?v21) rfl rfl (by kernel_rfl) (by kernel_rfl) (by kernel_rfl) (fun _ _ _ h => h) (Or.inl ⟨by rfl, ?h21⟩) hS ?_
  case h21 => intro W _; go_simp; try with_reducible rfl
  simp only [Act.put, List.setIfInBounds_toArray, List.set_cons_zero, List.set_cons_succ]
  refine takeH (i := 28) (d := some 73) (v := ?v22) rfl rfl (by kernel_rfl) (by kernel_rfl) (by kernel_rfl) (fun _ _ _ h => h) (Or.inl ⟨by rfl, ?h22⟩) hS ?_
  case h22 => intro W _; go_simp; try with_reducible rfl
  simp only [Act.put, List.setIfInBounds_toArray, List.set_cons_zero, List.set_cons_succ]
  refine wpAnyH_ready (rs := [27]) (by kernel_rfl) (by simp) ?_
  refine AllReadyH.cons rfl (fun Kc hKc => ?_) AllReadyH.nil
  go_simp
  refine (p4.out _ (HG.out.next hS.1).pow).mono ?_
  rintro e W13 ⟨rfl, hb⟩
  refine hKc.out _ _ ⟨below_step hS.1 hb, hS.2.1.keep hb, hS.2.2.1.keep hb, hS.2.2.2.keep hb⟩ (fun hS => ?_)
  clear hKc Kc
  refine wpAnyH_ready (rs := [29]) (by kernel_rfl) (by simp) ?_
  refine AllReadyH.cons rfl (fun Kc hKc => ?_) AllReadyH.nil
  go_simp
  refine (q4.out _).mono ?_
  rintro e W14 ⟨rfl, hb⟩
  refine hKc.out _ _ ⟨below_step hS.1 hb, hS.2.1.keep hb, hS.2.2.1.keep hb, hS.2.2.2.keep hb⟩ (fun hS => ?_)
  clear hKc Kc
  refine takeH (i := 30) (d := some 75) (v := .bool true) rfl rfl (by kernel_rfl) (by kernel_rfl) (by kernel_rfl) (fun _ _ _ h => h) (Or.inl ⟨by rfl, ?h23⟩) hS ?_
  case h23 => intro W _; go_simp; try with_reducible rfl
  simp only [Act.put, List.setIfInBounds_toArray, List.set_cons_zero, List.set_cons_succ]
  refine takeH (i := 31) (d := some 76) (v := ?v24) rfl rfl (by kernel_rfl) (by kernel_rfl) (by kernel_rfl) (fun _ _ _ h => h) (Or.inl ⟨by rfl, ?h24⟩) hS ?_
  case h24 => intro W _; go_simp; try with_reducible rfl
  simp only [Act.put, List.setIfInBounds_toArray, List.set_cons_zero, List.set_cons_succ]
  refine takeH (i := 32) (d := some 77) (v := ?v25) rfl rfl (by kernel_rfl) (by kernel_rfl) (by kernel_rfl) (fun _ _ _ h => h) (Or.inl ⟨by rfl, ?h25⟩) hS ?_
  case h25 => intro W _; go_simp; try with_reducible rfl
  simp only [Act.put, List.setIfInBounds_toArray, List.set_cons_zero, List.set_cons_succ]
  refine wpAnyH_ready (rs := [33]) (by kernel_rfl) (by simp) ?_
  refine AllReadyH.cons rfl (fun Kc hKc => ?_) AllReadyH.nil
  go_simp
  refine (shown_true _ (HG.out.next hS.1)).mono ?_
  rintro e W15 ⟨rfl, hb⟩
  refine hKc.out _ _ ⟨below_step hS.1 hb, hS.2.1.keep hb, hS.2.2.1.keep hb, hS.2.2.2.keep hb⟩ (fun hS => ?_)
  clear hKc Kc
  refine takeH (i := 34) (d := some 79) (v := ?v26) rfl rfl (by kernel_rfl) (by kernel_rfl) (by kernel_rfl) (fun _ _ _ h => h) (Or.inl ⟨by rfl, ?h26⟩) hS ?_
  case h26 => intro W _; go_simp; try with_reducible rfl
  simp only [Act.put, List.setIfInBounds_toArray, List.set_cons_zero, List.set_cons_succ]
  refine takeH (i := 35) (d := some 6) (v := ?v27) rfl rfl (by kernel_rfl) (by kernel_rfl) (by kernel_rfl) (fun _ _ _ h => h) (Or.inl ⟨by rfl, ?h27⟩) hS ?_
  case h27 => intro W _; go_simp; try with_reducible rfl
  simp only [Act.put, List.setIfInBounds_toArray, List.set_cons_zero, List.set_cons_succ]
  refine wpAnyH_done (by kernel_rfl) ?_ _
  go_wp2_with fail
  go_ret
  go_light
  exact ⟨rfl, hS.1⟩
theorem texts_any (n : Bool) (s : ByteArray) (S : Int) (t : ByteArray) (K : Int) (hs : s.size ≤ maxLen) (ht : t.size ≤ maxLen) (hK0 : -9223372036854775808 ≤ K) (hK1 : K ≤ 9223372036854775807) (w : World) (hG : Good w) : Calls Tryz.prog 3 #[.agg #[.bool n, .string s, .int .i64 S], .string t, .int .i64 K] w fun e w' => e = .returned (.bool true) ∧ Below w.heap.size w w' := by
  by_cases h1 : 400 < t.size
  · exact texts_long n s S t K ht h1 w hG
  · by_cases h2 : 400 < s.size
    · exact texts_long2 n s S t K hs (by omega) h2 w hG
    · exact texts_short n s S t K (by omega) (by omega) hK0 hK1 w hG
end Go.Proofs.YthmmjihldkjhhaaGreatDoor
