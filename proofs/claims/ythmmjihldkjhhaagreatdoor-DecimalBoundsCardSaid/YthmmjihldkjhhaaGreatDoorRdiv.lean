/-
  What Div of the reference returns.
-/
import Derived.Test.YthmmjihldkjhhaaGreatDoorRcmp
namespace Go.Proofs.YthmmjihldkjhhaaGreatDoor
open Go Go.RowKit

set_option maxRecDepth 100000 in
set_option maxHeartbeats 4000000 in
theorem rDiv_no1 (n : Bool) (s : ByteArray) (S : Int) (m : Bool) (t : ByteArray) (U : Int) (K : Int) (hs : s.size ≤ 1000000) (hk : okB n s S = false) (w : World) : Calls Tryz.prog 18 #[.agg #[.bool n, .string s, .int .i64 S], .agg #[.bool m, .string t, .int .i64 U], .int .i64 K] w fun e w' => e = argR.ret ∧ Below w.heap.size w w' := by
  have K1 : Hid _ := Lib.hid (rcheck_r n s S hs 2 (ck_no hk))
  clear hk
  go_enter Tryz.func18, Tryz.ntmps18
  go_wp2_with (first
    | (refine wl_boxA rfl (.tmp 0) rfl rfl (fun W2 b2 hb2 => ?_))
    | (refine wl_boxA rfl (.tmp 1) rfl rfl (fun W3 b3 hb3 => ?_); have l2 := b2.lt; have l22 := hb2.size; replace b2 := b2.keep hb3; have l3 := b3.lt)
    | (refine wl_allocA rfl zero_dec rfl (fun W4 b4 hb4 => ?_); replace b2 := b2.keep hb4; replace b3 := b3.keep hb4; have hB := below_step (below_step hb2 hb3) hb4; clear hb2 hb3 hb4)
    | (refine wl_loadA (ty := 23) b2 rfl (by kernel_rfl) _ rfl rfl ?_)
    | (refine wl_loadA (ty := 23) b3 rfl (by kernel_rfl) _ rfl rfl ?_)
    | (go_at_call 14; refine (K1.out _).mono ?_; rintro e V1 ⟨rfl, hb⟩; replace hB := below_step hB hb; replace b2 := b2.keep hb; replace b3 := b3.keep hb; replace b4 := b4.keep hb; clear hb)
    | (refine wl_storeA b4 rfl _ _ rfl rfl rfl (by kernel_rfl) rfl rfl rfl (fun W8 b8 hg => ?_); have hB8 := below_far hB hB.size (by omega) hg; clear hg))
  exact bodyPost_ret (res_cell_tmp rfl b8 (by kernel_rfl) rfl rfl) rfl ⟨rfl, hB8⟩
set_option maxRecDepth 100000 in
set_option maxHeartbeats 4000000 in
theorem rDiv_no2 (n : Bool) (s : ByteArray) (S : Int) (m : Bool) (t : ByteArray) (U : Int) (K : Int) (hs : s.size ≤ 1000000) (ht : t.size ≤ 1000000) (hk1 : okB n s S = true) (hk : okB m t U = false) (w : World) : Calls Tryz.prog 18 #[.agg #[.bool n, .string s, .int .i64 S], .agg #[.bool m, .string t, .int .i64 U], .int .i64 K] w fun e w' => e = argR.ret ∧ Below w.heap.size w w' := by
  have K1 : Hid _ := Lib.hid (rcheck_r n s S hs 0 (ck_yes hk1))
  have K2 : Hid _ := Lib.hid (rcheck_r m t U ht 2 (ck_no hk))
  clear hk1 hk
  have tok1 : True := trivial
  go_enter Tryz.func18, Tryz.ntmps18
  go_wp2_with (first
    | (refine wl_boxA rfl (.tmp 0) rfl rfl (fun W2 b2 hb2 => ?_))
    | (refine wl_boxA rfl (.tmp 1) rfl rfl (fun W3 b3 hb3 => ?_); have l2 := b2.lt; have l22 := hb2.size; replace b2 := b2.keep hb3; have l3 := b3.lt)
    | (refine wl_allocA rfl zero_dec rfl (fun W4 b4 hb4 => ?_); replace b2 := b2.keep hb4; replace b3 := b3.keep hb4; have hB := below_step (below_step hb2 hb3) hb4; clear hb2 hb3 hb4)
    | (refine wl_loadA (ty := 23) b2 rfl (by kernel_rfl) _ rfl rfl ?_)
    | (refine wl_loadA (ty := 23) b3 rfl (by kernel_rfl) _ rfl rfl ?_)
    | (go_at_call 14; have _t := tok1; refine (K1.out _).mono ?_; rintro e V1 ⟨rfl, hb⟩; replace hB := below_step hB hb; replace b2 := b2.keep hb; replace b3 := b3.keep hb; replace b4 := b4.keep hb; clear hb; clear tok1 _t)
    | (go_at_call 14; refine (K2.out _).mono ?_; rintro e V2 ⟨rfl, hb⟩; replace hB := below_step hB hb; replace b2 := b2.keep hb; replace b3 := b3.keep hb; replace b4 := b4.keep hb; clear hb)
    | (refine wl_storeA b4 rfl _ _ rfl rfl rfl (by kernel_rfl) rfl rfl rfl (fun W8 b8 hg => ?_); have hB8 := below_far hB hB.size (by omega) hg; clear hg))
  exact bodyPost_ret (res_cell_tmp rfl b8 (by kernel_rfl) rfl rfl) rfl ⟨rfl, hB8⟩
set_option maxRecDepth 100000 in
set_option maxHeartbeats 4000000 in
theorem rDiv_noz (n : Bool) (s : ByteArray) (S : Int) (m : Bool) (t : ByteArray) (U : Int) (K : Int) (hs : s.size ≤ 1000000) (ht : t.size ≤ 1000000) (hk1 : okB n s S = true) (hk2 : okB m t U = true) (q : (t.toList == [48]) = true) (w : World) : Calls Tryz.prog 18 #[.agg #[.bool n, .string s, .int .i64 S], .agg #[.bool m, .string t, .int .i64 U], .int .i64 K] w fun e w' => e = argR.ret ∧ Below w.heap.size w w' := by
  have K1 : Hid _ := Lib.hid (rcheck_r n s S hs 0 (ck_yes hk1))
  have K2 : Hid _ := Lib.hid (rcheck_r m t U ht 0 (ck_yes hk2))
  clear hk1 hk2
  have tok1 : True := trivial
  go_enter Tryz.func18, Tryz.ntmps18
  go_wp2_with (first
    | (refine wl_boxA rfl (.tmp 0) rfl rfl (fun W2 b2 hb2 => ?_))
    | (refine wl_boxA rfl (.tmp 1) rfl rfl (fun W3 b3 hb3 => ?_); have l2 := b2.lt; have l22 := hb2.size; replace b2 := b2.keep hb3; have l3 := b3.lt)
    | (refine wl_allocA rfl zero_dec rfl (fun W4 b4 hb4 => ?_); replace b2 := b2.keep hb4; replace b3 := b3.keep hb4; have hB := below_step (below_step hb2 hb3) hb4; clear hb2 hb3 hb4)
    | (refine wl_loadA (ty := 23) b2 rfl (by kernel_rfl) _ rfl rfl ?_)
    | (refine wl_loadA (ty := 23) b3 rfl (by kernel_rfl) _ rfl rfl ?_)
    | (go_at_call 14; have _t := tok1; refine (K1.out _).mono ?_; rintro e V1 ⟨rfl, hb⟩; replace hB := below_step hB hb; replace b2 := b2.keep hb; replace b3 := b3.keep hb; replace b4 := b4.keep hb; clear hb; clear tok1 _t)
    | (go_at_call 14; refine (K2.out _).mono ?_; rintro e V2 ⟨rfl, hb⟩; replace hB := below_step hB hb; replace b2 := b2.keep hb; replace b3 := b3.keep hb; replace b4 := b4.keep hb; clear hb; have c31 := b3.at (j := 1) rfl)
    | (refine wl_storeA b4 rfl _ _ rfl rfl rfl (by kernel_rfl) rfl rfl rfl (fun W8 b8 hg => ?_); have hB8 := below_far hB hB.size (by omega) hg; clear hg))
  exact bodyPost_ret (res_cell_tmp rfl b8 (by kernel_rfl) rfl rfl) rfl ⟨rfl, hB8⟩
set_option maxRecDepth 100000 in
set_option maxHeartbeats 4000000 in
theorem rDiv_non (n : Bool) (s : ByteArray) (S : Int) (m : Bool) (t : ByteArray) (U : Int) (K : Int) (hs : s.size ≤ 1000000) (ht : t.size ≤ 1000000) (hk1 : okB n s S = true) (hk2 : okB m t U = true) (q : (t.toList == [48]) = false) (d1 : decide (K < 0) = true) (w : World) : Calls Tryz.prog 18 #[.agg #[.bool n, .string s, .int .i64 S], .agg #[.bool m, .string t, .int .i64 U], .int .i64 K] w fun e w' => e = argR.ret ∧ Below w.heap.size w w' := by
  have K1 : Hid _ := Lib.hid (rcheck_r n s S hs 0 (ck_yes hk1))
  have K2 : Hid _ := Lib.hid (rcheck_r m t U ht 0 (ck_yes hk2))
  clear hk1 hk2
  have tok1 : True := trivial
  go_enter Tryz.func18, Tryz.ntmps18
  go_wp2_with (first
    | (refine wl_boxA rfl (.tmp 0) rfl rfl (fun W2 b2 hb2 => ?_))
    | (refine wl_boxA rfl (.tmp 1) rfl rfl (fun W3 b3 hb3 => ?_); have l2 := b2.lt; have l22 := hb2.size; replace b2 := b2.keep hb3; have l3 := b3.lt)
    | (refine wl_allocA rfl zero_dec rfl (fun W4 b4 hb4 => ?_); replace b2 := b2.keep hb4; replace b3 := b3.keep hb4; have hB := below_step (below_step hb2 hb3) hb4; clear hb2 hb3 hb4)
    | (refine wl_loadA (ty := 23) b2 rfl (by kernel_rfl) _ rfl rfl ?_)
    | (refine wl_loadA (ty := 23) b3 rfl (by kernel_rfl) _ rfl rfl ?_)
    | (go_at_call 14; have _t := tok1; refine (K1.out _).mono ?_; rintro e V1 ⟨rfl, hb⟩; replace hB := below_step hB hb; replace b2 := b2.keep hb; replace b3 := b3.keep hb; replace b4 := b4.keep hb; clear hb; clear tok1 _t)
    | (go_at_call 14; refine (K2.out _).mono ?_; rintro e V2 ⟨rfl, hb⟩; replace hB := below_step hB hb; replace b2 := b2.keep hb; replace b3 := b3.keep hb; replace b4 := b4.keep hb; clear hb; have c31 := b3.at (j := 1) rfl)
    | (refine wl_storeA b4 rfl _ _ rfl rfl rfl (by kernel_rfl) rfl rfl rfl (fun W8 b8 hg => ?_); have hB8 := below_far hB hB.size (by omega) hg; clear hg))
  exact bodyPost_ret (res_cell_tmp rfl b8 (by kernel_rfl) rfl rfl) rfl ⟨rfl, hB8⟩
set_option maxRecDepth 100000 in
set_option maxHeartbeats 4000000 in
theorem rDiv_now (n : Bool) (s : ByteArray) (S : Int) (m : Bool) (t : ByteArray) (U : Int) (K : Int) (hs : s.size ≤ 1000000) (ht : t.size ≤ 1000000) (hk1 : okB n s S = true) (hk2 : okB m t U = true) (q : (t.toList == [48]) = false) (d1 : decide (K < 0) = false) (d2 : decide (60 < K) = true) (w : World) : Calls Tryz.prog 18 #[.agg #[.bool n, .string s, .int .i64 S], .agg #[.bool m, .string t, .int .i64 U], .int .i64 K] w fun e w' => e = argR.ret ∧ Below w.heap.size w w' := by
  have K1 : Hid _ := Lib.hid (rcheck_r n s S hs 0 (ck_yes hk1))
  have K2 : Hid _ := Lib.hid (rcheck_r m t U ht 0 (ck_yes hk2))
  clear hk1 hk2
  have tok1 : True := trivial
  go_enter Tryz.func18, Tryz.ntmps18
  go_wp2_with (first
    | (refine wl_boxA rfl (.tmp 0) rfl rfl (fun W2 b2 hb2 => ?_))
    | (refine wl_boxA rfl (.tmp 1) rfl rfl (fun W3 b3 hb3 => ?_); have l2 := b2.lt; have l22 := hb2.size; replace b2 := b2.keep hb3; have l3 := b3.lt)
    | (refine wl_allocA rfl zero_dec rfl (fun W4 b4 hb4 => ?_); replace b2 := b2.keep hb4; replace b3 := b3.keep hb4; have hB := below_step (below_step hb2 hb3) hb4; clear hb2 hb3 hb4)
    | (refine wl_loadA (ty := 23) b2 rfl (by kernel_rfl) _ rfl rfl ?_)
    | (refine wl_loadA (ty := 23) b3 rfl (by kernel_rfl) _ rfl rfl ?_)
    | (go_at_call 14; have _t := tok1; refine (K1.out _).mono ?_; rintro e V1 ⟨rfl, hb⟩; replace hB := below_step hB hb; replace b2 := b2.keep hb; replace b3 := b3.keep hb; replace b4 := b4.keep hb; clear hb; clear tok1 _t)
    | (go_at_call 14; refine (K2.out _).mono ?_; rintro e V2 ⟨rfl, hb⟩; replace hB := below_step hB hb; replace b2 := b2.keep hb; replace b3 := b3.keep hb; replace b4 := b4.keep hb; clear hb; have c31 := b3.at (j := 1) rfl)
    | (refine wl_storeA b4 rfl _ _ rfl rfl rfl (by kernel_rfl) rfl rfl rfl (fun W8 b8 hg => ?_); have hB8 := below_far hB hB.size (by omega) hg; clear hg))
  exact bodyPost_ret (res_cell_tmp rfl b8 (by kernel_rfl) rfl rfl) rfl ⟨rfl, hB8⟩
set_option maxRecDepth 100000 in
set_option maxHeartbeats 4000000 in
theorem rDiv_yes (n : Bool) (s : ByteArray) (S : Int) (m : Bool) (t : ByteArray) (U : Int) (K : Nat) (hk1 : okB n s S = true) (hk2 : okB m t U = true) (hz : bts t ≠ [48]) (hK : K ≤ 60) (r : Res) (hr : resOf (Dc.divD (rawD n s S) (rawD m t U) K) = r) (w : World) : Calls Tryz.prog 18 #[.agg #[.bool n, .string s, .int .i64 S], .agg #[.bool m, .string t, .int .i64 U], .int .i64 (K : Int)] w fun e w' => e = .returned (.tuple #[.agg #[.bool r.n, .string r.s, .int .i64 r.S], .int .i64 r.k]) ∧ Below w.heap.size w w' := by
  have h1 := okB_ok hk1
  have h2 := okB_ok hk2
  obtain ⟨T, rfl⟩ : ∃ T : Nat, S = T := ⟨S.toNat, by have := h1.low; omega⟩
  obtain ⟨V, rfl⟩ : ∃ V : Nat, U = V := ⟨U.toNat, by have := h2.low; omega⟩
  have hT : T ≤ 60 := by have := h1.high; omega
  have hV : V ≤ 60 := by have := h2.high; omega
  have K1 : Hid _ := Lib.hid (rcheck_r n s (T : Int) (by have := h1.size; omega) 0 (ck_yes hk1))
  have K2 : Hid _ := Lib.hid (rcheck_r m t (V : Int) (by have := h2.size; omega) 0 (ck_yes hk2))
  obtain ⟨M, hM⟩ : ∃ M : Nat, max T V = M := ⟨_, rfl⟩
  have CS : Hid _ := Lib.hid (rsame_any n s T m t V M hM h1.size h2.size hT hV)
  have hMl : M ≤ 60 := by omega
  have CZ : Hid _ := Lib.hid (rzeros_b (K : Int) K rfl (by omega))
  have hss : s.size ≤ 60 := h1.size
  have hts : t.size ≤ 60 := h2.size
  have HD1 : Hid _ := Lib.hid h1.dig
  have HD2 : Hid _ := Lib.hid h2.dig
  have hv0 : Hid (Dc.val (bts t) ≠ 0) := Lib.hid (fun h0 => hz (by rw [h2.eq, h0]; rfl))
  obtain ⟨qv, hqv⟩ : ∃ q, Dc.quo (rawD n s (T : Int)) (rawD m t (V : Int)) K = q := ⟨_, rfl⟩
  have HQV : Hid (Dc.val (bts s) * 10 ^ (M - T) * 10 ^ K / (Dc.val (bts t) * 10 ^ (M - V)) = qv) := Lib.hid (by rw [← hqv, ← hM, Nat.mul_assoc, ← Nat.pow_add]; simp [Dc.quo, rawD])
  have HQL : Hid (qv < 10 ^ 180) := Lib.hid (by
    have h3 := Dc.val_lt h1.dig.all
    rw [bts_length] at h3
    have h4 : Dc.val (bts s) * 10 ^ (M - T + K) < 10 ^ 60 * 10 ^ 120 := Nat.mul_lt_mul_of_lt_of_le (Nat.lt_of_lt_of_le h3 (Nat.pow_le_pow_right (by decide) h1.size)) (Nat.pow_le_pow_right (by decide) (by omega)) (Dc.pow10_pos _)
    rw [← Nat.pow_add] at h4
    rw [← HQV.out, Nat.mul_assoc, ← Nat.pow_add]
    exact Nat.lt_of_le_of_lt (Nat.div_le_self _ _) h4)
  have HR : Hid (resOf (Dc.can (n != m) qv K) = r) := Lib.hid (by rw [← hr, ← hqv]; rfl)
  have q : (t.toList == [48]) = false := by rw [word_beq]; exact decide_eq_false hz
  have d1 : decide ((K : Int) < 0) = false := decide_eq_false (by omega)
  have d2 : decide (60 < (K : Int)) = false := decide_eq_false (by omega)
  clear h1 h2 hk1 hk2 hr hz hqv hM
  have tok1 : True := trivial
  go_enter Tryz.func18, Tryz.ntmps18
  go_wp2_with (first
    | (refine wl_boxA rfl (.tmp 0) rfl rfl (fun W2 b2 hb2 => ?_))
    | (refine wl_boxA rfl (.tmp 1) rfl rfl (fun W3 b3 hb3 => ?_); have l2 := b2.lt; have l22 := hb2.size; replace b2 := b2.keep hb3; have l3 := b3.lt)
    | (refine wl_allocA rfl zero_dec rfl (fun W4 b4 hb4 => ?_); replace b2 := b2.keep hb4; replace b3 := b3.keep hb4; have hB := below_step (below_step hb2 hb3) hb4; clear hb2 hb3 hb4)
    | (refine wl_loadA (ty := 23) b2 rfl (by kernel_rfl) _ rfl rfl ?_)
    | (refine wl_loadA (ty := 23) b3 rfl (by kernel_rfl) _ rfl rfl ?_)
    | (go_at_call 14; have _t := tok1; refine (K1.out _).mono ?_; rintro e V1 ⟨rfl, hb⟩; replace hB := below_step hB hb; replace b2 := b2.keep hb; replace b3 := b3.keep hb; replace b4 := b4.keep hb; clear hb; clear tok1 _t)
    | (go_at_call 14; refine (K2.out _).mono ?_; rintro e V2 ⟨rfl, hb⟩; replace hB := below_step hB hb; replace b2 := b2.keep hb; replace b3 := b3.keep hb; replace b4 := b4.keep hb; clear hb; have c31 := b3.at (j := 1) rfl)
    | (go_at_call 52; refine (CS.out _).mono ?_; rintro e W5 ⟨⟨x, y, rfl, hx, hy⟩, hb⟩; replace hB := below_step hB hb; replace b2 := b2.keep hb; replace b3 := b3.keep hb; replace b4 := b4.keep hb; have HX : Hid _ := Lib.hid hx; have HY : Hid _ := Lib.hid hy; have lx : x.size ≤ 120 := (by rw [hx.size]; omega); have ly : y.size ≤ 120 := (by rw [hy.size]; omega); clear hb hx hy)
    | (go_at_call 45; refine (CZ.out _).mono ?_; rintro e W6 ⟨⟨z, rfl, hz⟩, hb⟩; replace hB := below_step hB hb; replace b2 := b2.keep hb; replace b3 := b3.keep hb; replace b4 := b4.keep hb; have zl : z.size ≤ 60 := (by rw [← bts_length, hz, List.length_replicate]; omega); obtain ⟨u, hu⟩ : ∃ u, x ++ z = u := ⟨_, rfl⟩; have ul : u.size ≤ 180 := (by rw [← bts_length, ← hu, str_add, List.length_append, bts_length, bts_length]; omega); have hub : bts u = bts x ++ List.replicate K 48 := (by rw [← hu, str_add, hz]); have HU : Hid _ := Lib.hid hub; clear hz hub hb)
    | (go_at_call 53; refine (rover_any u y (by omega) (by omega) ⟨by rw [HU.out, List.all_append, (HX.out.digs HD1.out).all, Dc.zeros_dig]; rfl, by rw [HU.out]; simp [(HX.out.digs HD1.out).ne]⟩ (HY.out.digs HD2.out) (by rw [HY.out.val]; exact Nat.mul_pos (Nat.pos_of_ne_zero hv0.out) (Dc.pow10_pos _)) _).mono ?_; rintro e W7 ⟨⟨qq, rr, rfl, hq, hrr⟩, hb⟩; replace hB := below_step hB hb; replace b2 := b2.keep hb; replace b3 := b3.keep hb; replace b4 := b4.keep hb; have HQ : Hid (bts qq = Dc.digs qv) := Lib.hid (by rw [hq, bts_digs, HU.out, Dc.val_zeros_back, HX.out.val, HY.out.val, HQV.out]); clear hq hrr hb)
    | (refine wl_loadC b2 rfl (by kernel_rfl) _ rfl (j := 0) rfl rfl ?_)
    | (refine wl_loadC b3 rfl (by kernel_rfl) _ rfl (j := 0) rfl rfl ?_)
    | (go_at_call 42; refine (rmade_is _ qq K (Nat.le_trans (digs_size (k := 180) HQ.out HQL.out (by decide)) (by decide)) (by omega) (digs_is HQ.out) r (by rw [val_of HQ.out]; exact HR.out) _).mono ?_; rintro e W8 ⟨rfl, hb⟩; replace hB := below_step hB hb; replace b4 := b4.keep hb; clear hb)
    | (refine wl_storeA b4 rfl _ _ rfl rfl rfl (by kernel_rfl) rfl rfl rfl (fun W8 b8 hg => ?_); have hB8 := below_far hB hB.size (by omega) hg; clear hg))
  exact bodyPost_ret (res_cell_tmp rfl b8 (by kernel_rfl) rfl rfl) rfl ⟨rfl, hB8⟩
theorem rdiv_is (n : Bool) (s : ByteArray) (S : Int) (m : Bool) (t : ByteArray) (U : Int) (K : Int) (hs : s.size ≤ 1000000) (ht : t.size ≤ 1000000) (r : Res) (hr : divR n s S m t U K = r) (w : World) : Calls Tryz.prog 18 #[.agg #[.bool n, .string s, .int .i64 S], .agg #[.bool m, .string t, .int .i64 U], .int .i64 K] w fun e w' => e = .returned (.tuple #[.agg #[.bool r.n, .string r.s, .int .i64 r.S], .int .i64 r.k]) ∧ Below w.heap.size w w' := by
  have T : ∀ {p : Prop} [Decidable p], p → decide p = true := fun h => decide_eq_true h
  have N : ∀ {p : Prop} [Decidable p], ¬ p → decide p = false := fun h => decide_eq_false h
  unfold divR at hr
  cases h1 : okB n s S with
  | false => rw [if_neg (by rw [h1]; simp)] at hr; subst hr; exact rDiv_no1 n s S m t U K hs h1 w
  | true =>
    cases h2 : okB m t U with
    | false => rw [if_neg (by rw [h2]; simp)] at hr; subst hr; exact rDiv_no2 n s S m t U K hs ht h1 h2 w
    | true =>
      by_cases hz : bts t = [48]
      · rw [if_neg (fun h => h.2.2.1 hz)] at hr; subst hr
        exact rDiv_noz n s S m t U K hs ht h1 h2 (by rw [word_beq]; exact T hz) w
      · have q : (t.toList == [48]) = false := by rw [word_beq]; exact N hz
        by_cases h3 : K < 0
        · rw [if_neg (fun h => by have := h.2.2.2.1; omega)] at hr; subst hr
          exact rDiv_non n s S m t U K hs ht h1 h2 q (T h3) w
        · by_cases h4 : 60 < K
          · rw [if_neg (fun h => by have := h.2.2.2.2; omega)] at hr; subst hr
            exact rDiv_now n s S m t U K hs ht h1 h2 q (N h3) (T h4) w
          · rw [if_pos ⟨h1, h2, hz, by omega, by omega⟩] at hr
            obtain ⟨L, rfl⟩ : ∃ L : Nat, K = L := ⟨K.toNat, by omega⟩
            exact rDiv_yes n s S m t U L h1 h2 hz (by omega) r hr w
end Go.Proofs.YthmmjihldkjhhaaGreatDoor
