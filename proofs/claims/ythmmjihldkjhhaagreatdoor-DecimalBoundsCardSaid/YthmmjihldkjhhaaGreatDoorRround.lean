/-
  What Round of the reference returns.
-/
import Derived.Test.YthmmjihldkjhhaaGreatDoorRdiv
namespace Go.Proofs.YthmmjihldkjhhaaGreatDoor
open Go Go.RowKit

set_option maxRecDepth 100000 in
set_option maxHeartbeats 4000000 in
theorem rRound_no (n : Bool) (s : ByteArray) (S : Int) (K : Int) (hs : s.size ≤ 1000000) (hk : okB n s S = false) (w : World) : Calls Tryz.prog 20 #[.agg #[.bool n, .string s, .int .i64 S], .int .i64 K] w fun e w' => e = argR.ret ∧ Below w.heap.size w w' := by
  have K1 : Hid _ := Lib.hid (rcheck_r n s S hs 2 (ck_no hk))
  clear hk
  go_enter Tryz.func20, Tryz.ntmps20
  go_wp2_with (first
    | (refine wl_boxA rfl (.tmp 0) rfl rfl (fun W2 b2 hb2 => ?_))
    | (refine wl_allocA rfl zero_dec rfl (fun W4 b4 hb4 => ?_); have l2 := b2.lt; have l22 := hb2.size; replace b2 := b2.keep hb4; have hB := below_step hb2 hb4; clear hb2 hb4)
    | (refine wl_loadA (ty := 23) b2 rfl (by kernel_rfl) _ rfl rfl ?_)
    | (go_at_call 14; refine (K1.out _).mono ?_; rintro e V1 ⟨rfl, hb⟩; replace hB := below_step hB hb; replace b2 := b2.keep hb; replace b4 := b4.keep hb; clear hb)
    | (refine wl_storeA b4 rfl _ _ rfl rfl rfl (by kernel_rfl) rfl rfl rfl (fun W8 b8 hg => ?_); have hB8 := below_far hB hB.size (by omega) hg; clear hg))
  exact bodyPost_ret (res_cell_tmp rfl b8 (by kernel_rfl) rfl rfl) rfl ⟨rfl, hB8⟩
set_option maxRecDepth 100000 in
set_option maxHeartbeats 4000000 in
theorem rRound_non (n : Bool) (s : ByteArray) (S : Int) (K : Int) (hs : s.size ≤ 1000000) (hk : okB n s S = true) (d1 : decide (K < 0) = true) (w : World) : Calls Tryz.prog 20 #[.agg #[.bool n, .string s, .int .i64 S], .int .i64 K] w fun e w' => e = argR.ret ∧ Below w.heap.size w w' := by
  have K1 : Hid _ := Lib.hid (rcheck_r n s S hs 0 (ck_yes hk))
  clear hk
  go_enter Tryz.func20, Tryz.ntmps20
  go_wp2_with (first
    | (refine wl_boxA rfl (.tmp 0) rfl rfl (fun W2 b2 hb2 => ?_))
    | (refine wl_allocA rfl zero_dec rfl (fun W4 b4 hb4 => ?_); have l2 := b2.lt; have l22 := hb2.size; replace b2 := b2.keep hb4; have hB := below_step hb2 hb4; clear hb2 hb4)
    | (refine wl_loadA (ty := 23) b2 rfl (by kernel_rfl) _ rfl rfl ?_)
    | (go_at_call 14; refine (K1.out _).mono ?_; rintro e V1 ⟨rfl, hb⟩; replace hB := below_step hB hb; replace b2 := b2.keep hb; replace b4 := b4.keep hb; clear hb)
    | (refine wl_storeA b4 rfl _ _ rfl rfl rfl (by kernel_rfl) rfl rfl rfl (fun W8 b8 hg => ?_); have hB8 := below_far hB hB.size (by omega) hg; clear hg))
  exact bodyPost_ret (res_cell_tmp rfl b8 (by kernel_rfl) rfl rfl) rfl ⟨rfl, hB8⟩
set_option maxRecDepth 100000 in
set_option maxHeartbeats 4000000 in
theorem rRound_now (n : Bool) (s : ByteArray) (S : Int) (K : Int) (hs : s.size ≤ 1000000) (hk : okB n s S = true) (d1 : decide (K < 0) = false) (d2 : decide (60 < K) = true) (w : World) : Calls Tryz.prog 20 #[.agg #[.bool n, .string s, .int .i64 S], .int .i64 K] w fun e w' => e = argR.ret ∧ Below w.heap.size w w' := by
  have K1 : Hid _ := Lib.hid (rcheck_r n s S hs 0 (ck_yes hk))
  clear hk
  go_enter Tryz.func20, Tryz.ntmps20
  go_wp2_with (first
    | (refine wl_boxA rfl (.tmp 0) rfl rfl (fun W2 b2 hb2 => ?_))
    | (refine wl_allocA rfl zero_dec rfl (fun W4 b4 hb4 => ?_); have l2 := b2.lt; have l22 := hb2.size; replace b2 := b2.keep hb4; have hB := below_step hb2 hb4; clear hb2 hb4)
    | (refine wl_loadA (ty := 23) b2 rfl (by kernel_rfl) _ rfl rfl ?_)
    | (go_at_call 14; refine (K1.out _).mono ?_; rintro e V1 ⟨rfl, hb⟩; replace hB := below_step hB hb; replace b2 := b2.keep hb; replace b4 := b4.keep hb; clear hb)
    | (refine wl_storeA b4 rfl _ _ rfl rfl rfl (by kernel_rfl) rfl rfl rfl (fun W8 b8 hg => ?_); have hB8 := below_far hB hB.size (by omega) hg; clear hg))
  exact bodyPost_ret (res_cell_tmp rfl b8 (by kernel_rfl) rfl rfl) rfl ⟨rfl, hB8⟩
theorem ten_digs (c : Nat) : Dc.digs (10 ^ c) = 49 :: List.replicate c 48 := by
  have h : Dc.val (49 :: List.replicate c 48) = 10 ^ c := by rw [Dc.val_cons, Dc.val_zeros, List.length_replicate]; omega
  rw [← h]
  exact Dc.digs_unique (by rw [List.all_cons, Dc.zeros_dig]; rfl) (by simp) (.inl (by simp))
theorem str_beq {x y : ByteArray} {a b : Nat} (hx : bts x = Dc.digs a) (hy : bts y = Dc.digs b) : (x.toList == y.toList) = decide (a = b) := by
  rw [toList_beq, hx, hy]
  apply decide_eq_decide.2
  constructor
  · intro h; have := congrArg Dc.val h; rwa [Dc.val_digs, Dc.val_digs] at this
  · intro h; rw [h]
theorem last_digit {q : ByteArray} {x L : Nat} (hq : bts q = Dc.digs x) (hL : q.size = L + 1) (hl : L < q.size) : (q[L]'hl).toNat = 48 + x % 10 := by
  have h3 := Dc.digs_last x
  rw [← hq, List.getLast?_eq_getElem?, bts_length, hL, Nat.add_sub_cancel, List.getElem?_eq_getElem (by rw [bts_length]; exact hl), bts_get q L hl] at h3
  exact Option.some.inj h3
set_option maxRecDepth 100000 in
set_option maxHeartbeats 4000000 in
theorem rRound_same (n : Bool) (s : ByteArray) (T : Nat) (K : Nat) (hs : s.size ≤ 1000000) (hle : T ≤ K) (hK : K ≤ 60) (hk : okB n s (T : Int) = true) (w : World) : Calls Tryz.prog 20 #[.agg #[.bool n, .string s, .int .i64 (T : Int)], .int .i64 (K : Int)] w fun e w' => e = .returned (.tuple #[.agg #[.bool n, .string s, .int .i64 (T : Int)], .int .i64 0]) ∧ Below w.heap.size w w' := by
  have K1 : Hid _ := Lib.hid (rcheck_r n s (T : Int) hs 0 (ck_yes hk))
  have d1 : decide ((K : Int) < 0) = false := decide_eq_false (by omega)
  have d2 : decide (60 < (K : Int)) = false := decide_eq_false (by omega)
  have d3 : decide (T ≤ K) = true := decide_eq_true (by omega)
  clear hk hle
  go_enter Tryz.func20, Tryz.ntmps20
  go_wp2_with (first
    | (refine wl_boxA rfl (.tmp 0) rfl rfl (fun W2 b2 hb2 => ?_))
    | (refine wl_allocA rfl zero_dec rfl (fun W4 b4 hb4 => ?_); have l2 := b2.lt; have l22 := hb2.size; replace b2 := b2.keep hb4; have hB := below_step hb2 hb4; clear hb2 hb4)
    | (refine wl_loadA (ty := 23) b2 rfl (by kernel_rfl) _ rfl rfl ?_)
    | (go_at_call 14; refine (K1.out _).mono ?_; rintro e V1 ⟨rfl, hb⟩; replace hB := below_step hB hb; replace b2 := b2.keep hb; replace b4 := b4.keep hb; clear hb)
    | (refine wl_loadC b2 rfl (by kernel_rfl) _ rfl (j := 0) rfl rfl ?_)
    | (refine wl_loadC b2 rfl (by kernel_rfl) _ rfl (j := 1) rfl rfl ?_)
    | (refine wl_loadC b2 rfl (by kernel_rfl) _ rfl (j := 2) rfl rfl ?_)
    | (refine wl_storeA b4 rfl _ _ rfl rfl rfl (by kernel_rfl) rfl rfl rfl (fun W8 b8 hg => ?_); have hB8 := below_far hB hB.size (by omega) hg; clear hg))
  exact bodyPost_ret (res_cell_tmp rfl b8 (by kernel_rfl) rfl rfl) rfl ⟨rfl, hB8⟩
set_option maxRecDepth 100000 in
set_option maxHeartbeats 4000000 in
theorem rRound_A (n : Bool) (s : ByteArray) (T K c : Nat) (hc : T - K = c) (hlt : K < T) (hs : s.size ≤ 60) (hT : T ≤ 60) (hd : Digs s) (hk : okB n s (T : Int) = true) (hA : 10 ^ c < 2 * (Dc.val (bts s) % 10 ^ c)) (r : Res) (hr : resOf (Dc.can n (Dc.val (bts s) / 10 ^ c + 1) K) = r) (w : World) : Calls Tryz.prog 20 #[.agg #[.bool n, .string s, .int .i64 (T : Int)], .int .i64 (K : Int)] w fun e w' => e = .returned (.tuple #[.agg #[.bool r.n, .string r.s, .int .i64 r.S], .int .i64 r.k]) ∧ Below w.heap.size w w' := by
  have K1 : Hid _ := Lib.hid (rcheck_r n s (T : Int) (by omega) 0 (ck_yes hk))
  have d1 : decide ((K : Int) < 0) = false := decide_eq_false (by omega)
  have d2 : decide (60 < (K : Int)) = false := decide_eq_false (by omega)
  have d3 : decide (T ≤ K) = false := decide_eq_false (by omega)
  have hci : (T : Int) - (K : Int) = (c : Int) := by omega
  have hcl : c ≤ 60 := by omega
  have hKl : K ≤ 60 := by omega
  have CZ := Lib.hid (rzeros_b (c : Int) c rfl (by omega))
  have HDI := Lib.hid hd
  have hvl := Dc.val_lt hd.all
  rw [bts_length] at hvl
  obtain ⟨V, hV⟩ : ∃ V, Dc.val (bts s) = V := ⟨_, rfl⟩
  rw [hV] at hA hr hvl
  obtain ⟨Q, hQ⟩ : ∃ Q, V / 10 ^ c = Q := ⟨_, rfl⟩
  obtain ⟨R, hR⟩ : ∃ R, V % 10 ^ c = R := ⟨_, rfl⟩
  rw [hR] at hA
  rw [hQ] at hr
  have HA := Lib.hid hA
  have HRS := Lib.hid hr
  have HV := Lib.hid hV
  have HQ := Lib.hid hQ
  have HR := Lib.hid hR
  have HQL : Hid (Q < 10 ^ 60) := Lib.hid (by rw [← hQ]; exact Nat.lt_of_le_of_lt (Nat.div_le_self _ _) (Nat.lt_of_lt_of_le hvl (Nat.pow_le_pow_right (by decide) hs)))
  have HRL : Hid (R < 10 ^ 60) := Lib.hid (by rw [← hR]; exact Nat.lt_of_le_of_lt (Nat.mod_le _ _) (Nat.lt_of_lt_of_le hvl (Nat.pow_le_pow_right (by decide) hs)))
  have H10 : Hid ((10 : Nat) ^ 60 + 10 ^ 60 ≤ 10 ^ 61 ∧ (10 : Nat) ^ 60 + 1 ≤ 10 ^ 61) := Lib.hid (by rw [Nat.pow_succ 10 60]; have := Dc.pow10_pos 60; omega)
  clear hc hd hk hA hr hvl hV hQ hR hlt
  have tok1 : True := trivial
  go_enter Tryz.func20, Tryz.ntmps20
  go_wp2_with (first
    | (refine wl_boxA rfl (.tmp 0) rfl rfl (fun W2 b2 hb2 => ?_))
    | (refine wl_allocA rfl zero_dec rfl (fun W4 b4 hb4 => ?_); have l2 := b2.lt; have l22 := hb2.size; replace b2 := b2.keep hb4; have hB := below_step hb2 hb4; clear hb2 hb4)
    | (refine wl_loadA (ty := 23) b2 rfl (by kernel_rfl) _ rfl rfl ?_)
    | (go_at_call 14; refine (K1.out _).mono ?_; rintro e V1 ⟨rfl, hb⟩; replace hB := below_step hB hb; replace b2 := b2.keep hb; replace b4 := b4.keep hb; clear hb)
    | (refine wl_loadC b2 rfl (by kernel_rfl) _ rfl (j := 0) rfl rfl ?_)
    | (refine wl_loadC b2 rfl (by kernel_rfl) _ rfl (j := 1) rfl rfl ?_)
    | (refine wl_loadC b2 rfl (by kernel_rfl) _ rfl (j := 2) rfl rfl ?_)
    | (go_at_call 45; refine (CZ.out _).mono ?_; rintro e W6 ⟨⟨z, rfl, hz⟩, hb⟩; replace hB := below_step hB hb; replace b2 := b2.keep hb; replace b4 := b4.keep hb; have zl : z.size ≤ 60 := (by rw [← bts_length, hz, List.length_replicate]; omega); obtain ⟨un, hun⟩ : ∃ un, (⟨#[49]⟩ : ByteArray) ++ z = un := ⟨_, rfl⟩; have HUN := Lib.hid (show bts un = Dc.digs (10 ^ c) by rw [ten_digs, ← hun, str_add, hz]; rfl); have unl : un.size ≤ 61 := (by rw [← bts_length, HUN.out, ten_digs, List.length_cons, List.length_replicate]; omega); clear hz hb)
    | (go_at_call 53; refine (rover_any s un (by omega) (by omega) HDI.out (digs_is HUN.out) (by rw [val_of HUN.out]; exact Dc.pow10_pos c) _).mono ?_; rintro e W7 ⟨⟨qq, rr, rfl, hq, hrr⟩, hb⟩; replace hB := below_step hB hb; replace b2 := b2.keep hb; replace b4 := b4.keep hb; have HQQ := Lib.hid (show bts qq = Dc.digs Q by rw [hq, bts_digs, val_of HUN.out, HV.out, HQ.out]); have HRR := Lib.hid (show bts rr = Dc.digs R by rw [hrr, bts_digs, val_of HUN.out, HV.out, HR.out]); have ql : qq.size ≤ 60 := digs_size HQQ.out HQL.out (by decide); have rl : rr.size ≤ 60 := digs_size HRR.out HRL.out (by decide); obtain ⟨L, hL⟩ : ∃ L, qq.size = L + 1 := ⟨qq.size - 1, by have := Dc.digs_pos Q; rw [← HQQ.out, bts_length] at this; omega⟩; have hLt : L < qq.size := (by omega); obtain ⟨dg, hdg⟩ : ∃ dg, Q % 10 = dg := ⟨_, rfl⟩; have hdl : dg ≤ 9 := (by omega); have HDG := Lib.hid hdg; obtain ⟨cc, hcc⟩ : ∃ cc : Nat, 48 + dg = cc := ⟨_, rfl⟩; have hlast : (qq[L]'hLt).toNat = cc := (by rw [last_digit HQQ.out hL hLt, hdg, hcc]); have hdi : (cc : Int) - 48 = (dg : Int) := (by omega); have w8 : IntKind.u8.wrap (dg : Int) = (dg : Int) := (by rw [IntKind.wrap_u8]; omega); obtain ⟨od, hod⟩ : ∃ od, ((dg : Int) % 2 == 1) = od := ⟨_, rfl⟩; have hL9 : L ≤ 59 := (by omega); have HLL := Lib.hid hlast; clear hq hrr hb hdg hcc)
    | (go_at_call 57; have _t := tok1; refine (rplus_any rr rr (by omega) (by omega) (digs_is HRR.out) (digs_is HRR.out) _).mono ?_; rintro e W8 ⟨⟨tw, rfl, htw⟩, hb⟩; replace hB := below_step hB hb; replace b2 := b2.keep hb; replace b4 := b4.keep hb; have HTW := Lib.hid (show bts tw = Dc.digs (2 * R) by rw [htw, bts_digs, val_of HRR.out, Nat.two_mul]); have twl : tw.size ≤ 61 := digs_size HTW.out (by have := HRL.out; have := H10.out.1; omega) (by decide); clear htw hb tok1 _t)
    | (go_at_call 58; refine (rless_ord true (10 ^ c) (2 * R) (decide_eq_true HA.out) un tw (by omega) (by omega) (digs_is HUN.out) (digs_is HTW.out) (val_of HUN.out) (val_of HTW.out) _).mono ?_; rintro e W9 ⟨rfl, hb⟩; replace hB := below_step hB hb; replace b2 := b2.keep hb; replace b4 := b4.keep hb; clear hb)
    | (go_at_call 57; refine (rplus_any qq ⟨#[49]⟩ (by omega) (by decide) (digs_is HQQ.out) ⟨rfl, by decide⟩ _).mono ?_; rintro e W10 ⟨⟨q2, rfl, hq2⟩, hb⟩; replace hB := below_step hB hb; replace b2 := b2.keep hb; replace b4 := b4.keep hb; have HQ2 := Lib.hid (show bts q2 = Dc.digs (Q + 1) by rw [hq2, bts_digs, val_of HQQ.out]; rfl); clear hq2 hb)
    | (go_at_call 42; refine (rmade_is n q2 K (Nat.le_trans (digs_size (k := 61) HQ2.out (by have := HQL.out; have := H10.out.2; omega) (by decide)) (by decide)) (by omega) (digs_is HQ2.out) r (by rw [val_of HQ2.out]; exact HRS.out) _).mono ?_; rintro e W11 ⟨rfl, hb⟩; replace hB := below_step hB hb; replace b2 := b2.keep hb; replace b4 := b4.keep hb; clear hb)
    | (refine wl_storeA b4 rfl _ _ rfl rfl rfl (by kernel_rfl) rfl rfl rfl (fun W8 b8 hg => ?_); have hB8 := below_far hB hB.size (by omega) hg; clear hg))
  exact bodyPost_ret (res_cell_tmp rfl b8 (by kernel_rfl) rfl rfl) rfl ⟨rfl, hB8⟩
set_option maxRecDepth 100000 in
set_option maxHeartbeats 4000000 in
theorem rRound_B (n : Bool) (s : ByteArray) (T K c : Nat) (hc : T - K = c) (hlt : K < T) (hs : s.size ≤ 60) (hT : T ≤ 60) (hd : Digs s) (hk : okB n s (T : Int) = true) (hA : 2 * (Dc.val (bts s) % 10 ^ c) = 10 ^ c) (hO : Dc.val (bts s) / 10 ^ c % 2 = 1) (r : Res) (hr : resOf (Dc.can n (Dc.val (bts s) / 10 ^ c + 1) K) = r) (w : World) : Calls Tryz.prog 20 #[.agg #[.bool n, .string s, .int .i64 (T : Int)], .int .i64 (K : Int)] w fun e w' => e = .returned (.tuple #[.agg #[.bool r.n, .string r.s, .int .i64 r.S], .int .i64 r.k]) ∧ Below w.heap.size w w' := by
  have K1 : Hid _ := Lib.hid (rcheck_r n s (T : Int) (by omega) 0 (ck_yes hk))
  have d1 : decide ((K : Int) < 0) = false := decide_eq_false (by omega)
  have d2 : decide (60 < (K : Int)) = false := decide_eq_false (by omega)
  have d3 : decide (T ≤ K) = false := decide_eq_false (by omega)
  have hci : (T : Int) - (K : Int) = (c : Int) := by omega
  have hcl : c ≤ 60 := by omega
  have hKl : K ≤ 60 := by omega
  have CZ := Lib.hid (rzeros_b (c : Int) c rfl (by omega))
  have HDI := Lib.hid hd
  have hvl := Dc.val_lt hd.all
  rw [bts_length] at hvl
  obtain ⟨V, hV⟩ : ∃ V, Dc.val (bts s) = V := ⟨_, rfl⟩
  rw [hV] at hA hr hvl hO
  obtain ⟨Q, hQ⟩ : ∃ Q, V / 10 ^ c = Q := ⟨_, rfl⟩
  obtain ⟨R, hR⟩ : ∃ R, V % 10 ^ c = R := ⟨_, rfl⟩
  rw [hR] at hA
  rw [hQ] at hr hO
  have HA := Lib.hid hA
  have HO := Lib.hid hO
  have HRS := Lib.hid hr
  have HV := Lib.hid hV
  have HQ := Lib.hid hQ
  have HR := Lib.hid hR
  have HQL : Hid (Q < 10 ^ 60) := Lib.hid (by rw [← hQ]; exact Nat.lt_of_le_of_lt (Nat.div_le_self _ _) (Nat.lt_of_lt_of_le hvl (Nat.pow_le_pow_right (by decide) hs)))
  have HRL : Hid (R < 10 ^ 60) := Lib.hid (by rw [← hR]; exact Nat.lt_of_le_of_lt (Nat.mod_le _ _) (Nat.lt_of_lt_of_le hvl (Nat.pow_le_pow_right (by decide) hs)))
  have H10 : Hid ((10 : Nat) ^ 60 + 10 ^ 60 ≤ 10 ^ 61 ∧ (10 : Nat) ^ 60 + 1 ≤ 10 ^ 61) := Lib.hid (by rw [Nat.pow_succ 10 60]; have := Dc.pow10_pos 60; omega)
  clear hc hd hk hA hr hvl hV hQ hR hlt hO
  have tok1 : True := trivial
  go_enter Tryz.func20, Tryz.ntmps20
  go_wp2_with (first
    | (refine wl_boxA rfl (.tmp 0) rfl rfl (fun W2 b2 hb2 => ?_))
    | (refine wl_allocA rfl zero_dec rfl (fun W4 b4 hb4 => ?_); have l2 := b2.lt; have l22 := hb2.size; replace b2 := b2.keep hb4; have hB := below_step hb2 hb4; clear hb2 hb4)
    | (refine wl_loadA (ty := 23) b2 rfl (by kernel_rfl) _ rfl rfl ?_)
    | (go_at_call 14; refine (K1.out _).mono ?_; rintro e V1 ⟨rfl, hb⟩; replace hB := below_step hB hb; replace b2 := b2.keep hb; replace b4 := b4.keep hb; clear hb)
    | (refine wl_loadC b2 rfl (by kernel_rfl) _ rfl (j := 0) rfl rfl ?_)
    | (refine wl_loadC b2 rfl (by kernel_rfl) _ rfl (j := 1) rfl rfl ?_)
    | (refine wl_loadC b2 rfl (by kernel_rfl) _ rfl (j := 2) rfl rfl ?_)
    | (go_at_call 45; refine (CZ.out _).mono ?_; rintro e W6 ⟨⟨z, rfl, hz⟩, hb⟩; replace hB := below_step hB hb; replace b2 := b2.keep hb; replace b4 := b4.keep hb; have zl : z.size ≤ 60 := (by rw [← bts_length, hz, List.length_replicate]; omega); obtain ⟨un, hun⟩ : ∃ un, (⟨#[49]⟩ : ByteArray) ++ z = un := ⟨_, rfl⟩; have HUN := Lib.hid (show bts un = Dc.digs (10 ^ c) by rw [ten_digs, ← hun, str_add, hz]; rfl); have unl : un.size ≤ 61 := (by rw [← bts_length, HUN.out, ten_digs, List.length_cons, List.length_replicate]; omega); clear hz hb)
    | (go_at_call 53; refine (rover_any s un (by omega) (by omega) HDI.out (digs_is HUN.out) (by rw [val_of HUN.out]; exact Dc.pow10_pos c) _).mono ?_; rintro e W7 ⟨⟨qq, rr, rfl, hq, hrr⟩, hb⟩; replace hB := below_step hB hb; replace b2 := b2.keep hb; replace b4 := b4.keep hb; have HQQ := Lib.hid (show bts qq = Dc.digs Q by rw [hq, bts_digs, val_of HUN.out, HV.out, HQ.out]); have HRR := Lib.hid (show bts rr = Dc.digs R by rw [hrr, bts_digs, val_of HUN.out, HV.out, HR.out]); have ql : qq.size ≤ 60 := digs_size HQQ.out HQL.out (by decide); have rl : rr.size ≤ 60 := digs_size HRR.out HRL.out (by decide); obtain ⟨L, hL⟩ : ∃ L, qq.size = L + 1 := ⟨qq.size - 1, by have := Dc.digs_pos Q; rw [← HQQ.out, bts_length] at this; omega⟩; have hLt : L < qq.size := (by omega); obtain ⟨dg, hdg⟩ : ∃ dg, Q % 10 = dg := ⟨_, rfl⟩; have hdl : dg ≤ 9 := (by omega); have HDG := Lib.hid hdg; obtain ⟨cc, hcc⟩ : ∃ cc : Nat, 48 + dg = cc := ⟨_, rfl⟩; have hlast : (qq[L]'hLt).toNat = cc := (by rw [last_digit HQQ.out hL hLt, hdg, hcc]); have hdi : (cc : Int) - 48 = (dg : Int) := (by omega); have w8 : IntKind.u8.wrap (dg : Int) = (dg : Int) := (by rw [IntKind.wrap_u8]; omega); have hod : ((dg : Int) % 2 == 1) = true := (by have := HO.out; have := HDG.out; rw [beq_iff_eq]; omega); have hL9 : L ≤ 59 := (by omega); have HLL := Lib.hid hlast; clear hq hrr hb hdg hcc)
    | (go_at_call 57; have _t := tok1; refine (rplus_any rr rr (by omega) (by omega) (digs_is HRR.out) (digs_is HRR.out) _).mono ?_; rintro e W8 ⟨⟨tw, rfl, htw⟩, hb⟩; replace hB := below_step hB hb; replace b2 := b2.keep hb; replace b4 := b4.keep hb; have HTW := Lib.hid (show bts tw = Dc.digs (2 * R) by rw [htw, bts_digs, val_of HRR.out, Nat.two_mul]); have twl : tw.size ≤ 61 := digs_size HTW.out (by have := HRL.out; have := H10.out.1; omega) (by decide); have qe : (tw.toList == un.toList) = true := (by rw [str_beq HTW.out HUN.out]; exact decide_eq_true HA.out); clear htw hb tok1 _t)
    | (go_at_call 58; refine (rless_ord false (10 ^ c) (2 * R) (decide_eq_false (by have := HA.out; omega)) un tw (by omega) (by omega) (digs_is HUN.out) (digs_is HTW.out) (val_of HUN.out) (val_of HTW.out) _).mono ?_; rintro e W9 ⟨rfl, hb⟩; replace hB := below_step hB hb; replace b2 := b2.keep hb; replace b4 := b4.keep hb; clear hb)
    | (go_at_call 57; refine (rplus_any qq ⟨#[49]⟩ (by omega) (by decide) (digs_is HQQ.out) ⟨rfl, by decide⟩ _).mono ?_; rintro e W10 ⟨⟨q2, rfl, hq2⟩, hb⟩; replace hB := below_step hB hb; replace b2 := b2.keep hb; replace b4 := b4.keep hb; have HQ2 := Lib.hid (show bts q2 = Dc.digs (Q + 1) by rw [hq2, bts_digs, val_of HQQ.out]; rfl); clear hq2 hb)
    | (go_at_call 42; refine (rmade_is n q2 K (Nat.le_trans (digs_size (k := 61) HQ2.out (by have := HQL.out; have := H10.out.2; omega) (by decide)) (by decide)) (by omega) (digs_is HQ2.out) r (by rw [val_of HQ2.out]; exact HRS.out) _).mono ?_; rintro e W11 ⟨rfl, hb⟩; replace hB := below_step hB hb; replace b2 := b2.keep hb; replace b4 := b4.keep hb; clear hb)
    | (refine wl_storeA b4 rfl _ _ rfl rfl rfl (by kernel_rfl) rfl rfl rfl (fun W8 b8 hg => ?_); have hB8 := below_far hB hB.size (by omega) hg; clear hg))
  exact bodyPost_ret (res_cell_tmp rfl b8 (by kernel_rfl) rfl rfl) rfl ⟨rfl, hB8⟩
set_option maxRecDepth 100000 in
set_option maxHeartbeats 4000000 in
theorem rRound_C (n : Bool) (s : ByteArray) (T K c : Nat) (hc : T - K = c) (hlt : K < T) (hs : s.size ≤ 60) (hT : T ≤ 60) (hd : Digs s) (hk : okB n s (T : Int) = true) (hA : 2 * (Dc.val (bts s) % 10 ^ c) = 10 ^ c) (hO : ¬ Dc.val (bts s) / 10 ^ c % 2 = 1) (r : Res) (hr : resOf (Dc.can n (Dc.val (bts s) / 10 ^ c) K) = r) (w : World) : Calls Tryz.prog 20 #[.agg #[.bool n, .string s, .int .i64 (T : Int)], .int .i64 (K : Int)] w fun e w' => e = .returned (.tuple #[.agg #[.bool r.n, .string r.s, .int .i64 r.S], .int .i64 r.k]) ∧ Below w.heap.size w w' := by
  have K1 : Hid _ := Lib.hid (rcheck_r n s (T : Int) (by omega) 0 (ck_yes hk))
  have d1 : decide ((K : Int) < 0) = false := decide_eq_false (by omega)
  have d2 : decide (60 < (K : Int)) = false := decide_eq_false (by omega)
  have d3 : decide (T ≤ K) = false := decide_eq_false (by omega)
  have hci : (T : Int) - (K : Int) = (c : Int) := by omega
  have hcl : c ≤ 60 := by omega
  have hKl : K ≤ 60 := by omega
  have CZ := Lib.hid (rzeros_b (c : Int) c rfl (by omega))
  have HDI := Lib.hid hd
  have hvl := Dc.val_lt hd.all
  rw [bts_length] at hvl
  obtain ⟨V, hV⟩ : ∃ V, Dc.val (bts s) = V := ⟨_, rfl⟩
  rw [hV] at hA hr hvl hO
  obtain ⟨Q, hQ⟩ : ∃ Q, V / 10 ^ c = Q := ⟨_, rfl⟩
  obtain ⟨R, hR⟩ : ∃ R, V % 10 ^ c = R := ⟨_, rfl⟩
  rw [hR] at hA
  rw [hQ] at hr hO
  have HA := Lib.hid hA
  have HO := Lib.hid hO
  have HRS := Lib.hid hr
  have HV := Lib.hid hV
  have HQ := Lib.hid hQ
  have HR := Lib.hid hR
  have HQL : Hid (Q < 10 ^ 60) := Lib.hid (by rw [← hQ]; exact Nat.lt_of_le_of_lt (Nat.div_le_self _ _) (Nat.lt_of_lt_of_le hvl (Nat.pow_le_pow_right (by decide) hs)))
  have HRL : Hid (R < 10 ^ 60) := Lib.hid (by rw [← hR]; exact Nat.lt_of_le_of_lt (Nat.mod_le _ _) (Nat.lt_of_lt_of_le hvl (Nat.pow_le_pow_right (by decide) hs)))
  have H10 : Hid ((10 : Nat) ^ 60 + 10 ^ 60 ≤ 10 ^ 61 ∧ (10 : Nat) ^ 60 + 1 ≤ 10 ^ 61) := Lib.hid (by rw [Nat.pow_succ 10 60]; have := Dc.pow10_pos 60; omega)
  clear hc hd hk hA hr hvl hV hQ hR hlt hO
  have tok1 : True := trivial
  go_enter Tryz.func20, Tryz.ntmps20
  go_wp2_with (first
    | (refine wl_boxA rfl (.tmp 0) rfl rfl (fun W2 b2 hb2 => ?_))
    | (refine wl_allocA rfl zero_dec rfl (fun W4 b4 hb4 => ?_); have l2 := b2.lt; have l22 := hb2.size; replace b2 := b2.keep hb4; have hB := below_step hb2 hb4; clear hb2 hb4)
    | (refine wl_loadA (ty := 23) b2 rfl (by kernel_rfl) _ rfl rfl ?_)
    | (go_at_call 14; refine (K1.out _).mono ?_; rintro e V1 ⟨rfl, hb⟩; replace hB := below_step hB hb; replace b2 := b2.keep hb; replace b4 := b4.keep hb; clear hb)
    | (refine wl_loadC b2 rfl (by kernel_rfl) _ rfl (j := 0) rfl rfl ?_)
    | (refine wl_loadC b2 rfl (by kernel_rfl) _ rfl (j := 1) rfl rfl ?_)
    | (refine wl_loadC b2 rfl (by kernel_rfl) _ rfl (j := 2) rfl rfl ?_)
    | (go_at_call 45; refine (CZ.out _).mono ?_; rintro e W6 ⟨⟨z, rfl, hz⟩, hb⟩; replace hB := below_step hB hb; replace b2 := b2.keep hb; replace b4 := b4.keep hb; have zl : z.size ≤ 60 := (by rw [← bts_length, hz, List.length_replicate]; omega); obtain ⟨un, hun⟩ : ∃ un, (⟨#[49]⟩ : ByteArray) ++ z = un := ⟨_, rfl⟩; have HUN := Lib.hid (show bts un = Dc.digs (10 ^ c) by rw [ten_digs, ← hun, str_add, hz]; rfl); have unl : un.size ≤ 61 := (by rw [← bts_length, HUN.out, ten_digs, List.length_cons, List.length_replicate]; omega); clear hz hb)
    | (go_at_call 53; refine (rover_any s un (by omega) (by omega) HDI.out (digs_is HUN.out) (by rw [val_of HUN.out]; exact Dc.pow10_pos c) _).mono ?_; rintro e W7 ⟨⟨qq, rr, rfl, hq, hrr⟩, hb⟩; replace hB := below_step hB hb; replace b2 := b2.keep hb; replace b4 := b4.keep hb; have HQQ := Lib.hid (show bts qq = Dc.digs Q by rw [hq, bts_digs, val_of HUN.out, HV.out, HQ.out]); have HRR := Lib.hid (show bts rr = Dc.digs R by rw [hrr, bts_digs, val_of HUN.out, HV.out, HR.out]); have ql : qq.size ≤ 60 := digs_size HQQ.out HQL.out (by decide); have rl : rr.size ≤ 60 := digs_size HRR.out HRL.out (by decide); obtain ⟨L, hL⟩ : ∃ L, qq.size = L + 1 := ⟨qq.size - 1, by have := Dc.digs_pos Q; rw [← HQQ.out, bts_length] at this; omega⟩; have hLt : L < qq.size := (by omega); obtain ⟨dg, hdg⟩ : ∃ dg, Q % 10 = dg := ⟨_, rfl⟩; have hdl : dg ≤ 9 := (by omega); have HDG := Lib.hid hdg; obtain ⟨cc, hcc⟩ : ∃ cc : Nat, 48 + dg = cc := ⟨_, rfl⟩; have hlast : (qq[L]'hLt).toNat = cc := (by rw [last_digit HQQ.out hL hLt, hdg, hcc]); have hdi : (cc : Int) - 48 = (dg : Int) := (by omega); have w8 : IntKind.u8.wrap (dg : Int) = (dg : Int) := (by rw [IntKind.wrap_u8]; omega); have hod : ((dg : Int) % 2 == 1) = false := (by have := HO.out; have := HDG.out; rw [beq_eq_false_iff_ne]; omega); have hL9 : L ≤ 59 := (by omega); have HLL := Lib.hid hlast; clear hq hrr hb hdg hcc)
    | (go_at_call 57; have _t := tok1; refine (rplus_any rr rr (by omega) (by omega) (digs_is HRR.out) (digs_is HRR.out) _).mono ?_; rintro e W8 ⟨⟨tw, rfl, htw⟩, hb⟩; replace hB := below_step hB hb; replace b2 := b2.keep hb; replace b4 := b4.keep hb; have HTW := Lib.hid (show bts tw = Dc.digs (2 * R) by rw [htw, bts_digs, val_of HRR.out, Nat.two_mul]); have twl : tw.size ≤ 61 := digs_size HTW.out (by have := HRL.out; have := H10.out.1; omega) (by decide); have qe : (tw.toList == un.toList) = true := (by rw [str_beq HTW.out HUN.out]; exact decide_eq_true HA.out); clear htw hb tok1 _t)
    | (go_at_call 58; refine (rless_ord false (10 ^ c) (2 * R) (decide_eq_false (by have := HA.out; omega)) un tw (by omega) (by omega) (digs_is HUN.out) (digs_is HTW.out) (val_of HUN.out) (val_of HTW.out) _).mono ?_; rintro e W9 ⟨rfl, hb⟩; replace hB := below_step hB hb; replace b2 := b2.keep hb; replace b4 := b4.keep hb; clear hb)
    | (go_at_call 42; refine (rmade_is n qq K (by omega) (by omega) (digs_is HQQ.out) r (by rw [val_of HQQ.out]; exact HRS.out) _).mono ?_; rintro e W11 ⟨rfl, hb⟩; replace hB := below_step hB hb; replace b2 := b2.keep hb; replace b4 := b4.keep hb; clear hb)
    | (refine wl_storeA b4 rfl _ _ rfl rfl rfl (by kernel_rfl) rfl rfl rfl (fun W8 b8 hg => ?_); have hB8 := below_far hB hB.size (by omega) hg; clear hg))
  exact bodyPost_ret (res_cell_tmp rfl b8 (by kernel_rfl) rfl rfl) rfl ⟨rfl, hB8⟩
set_option maxRecDepth 100000 in
set_option maxHeartbeats 4000000 in
theorem rRound_D (n : Bool) (s : ByteArray) (T K c : Nat) (hc : T - K = c) (hlt : K < T) (hs : s.size ≤ 60) (hT : T ≤ 60) (hd : Digs s) (hk : okB n s (T : Int) = true) (hA : 2 * (Dc.val (bts s) % 10 ^ c) < 10 ^ c) (r : Res) (hr : resOf (Dc.can n (Dc.val (bts s) / 10 ^ c) K) = r) (w : World) : Calls Tryz.prog 20 #[.agg #[.bool n, .string s, .int .i64 (T : Int)], .int .i64 (K : Int)] w fun e w' => e = .returned (.tuple #[.agg #[.bool r.n, .string r.s, .int .i64 r.S], .int .i64 r.k]) ∧ Below w.heap.size w w' := by
  have K1 : Hid _ := Lib.hid (rcheck_r n s (T : Int) (by omega) 0 (ck_yes hk))
  have d1 : decide ((K : Int) < 0) = false := decide_eq_false (by omega)
  have d2 : decide (60 < (K : Int)) = false := decide_eq_false (by omega)
  have d3 : decide (T ≤ K) = false := decide_eq_false (by omega)
  have hci : (T : Int) - (K : Int) = (c : Int) := by omega
  have hcl : c ≤ 60 := by omega
  have hKl : K ≤ 60 := by omega
  have CZ := Lib.hid (rzeros_b (c : Int) c rfl (by omega))
  have HDI := Lib.hid hd
  have hvl := Dc.val_lt hd.all
  rw [bts_length] at hvl
  obtain ⟨V, hV⟩ : ∃ V, Dc.val (bts s) = V := ⟨_, rfl⟩
  rw [hV] at hA hr hvl
  obtain ⟨Q, hQ⟩ : ∃ Q, V / 10 ^ c = Q := ⟨_, rfl⟩
  obtain ⟨R, hR⟩ : ∃ R, V % 10 ^ c = R := ⟨_, rfl⟩
  rw [hR] at hA
  rw [hQ] at hr
  have HA := Lib.hid hA
  have HRS := Lib.hid hr
  have HV := Lib.hid hV
  have HQ := Lib.hid hQ
  have HR := Lib.hid hR
  have HQL : Hid (Q < 10 ^ 60) := Lib.hid (by rw [← hQ]; exact Nat.lt_of_le_of_lt (Nat.div_le_self _ _) (Nat.lt_of_lt_of_le hvl (Nat.pow_le_pow_right (by decide) hs)))
  have HRL : Hid (R < 10 ^ 60) := Lib.hid (by rw [← hR]; exact Nat.lt_of_le_of_lt (Nat.mod_le _ _) (Nat.lt_of_lt_of_le hvl (Nat.pow_le_pow_right (by decide) hs)))
  have H10 : Hid ((10 : Nat) ^ 60 + 10 ^ 60 ≤ 10 ^ 61 ∧ (10 : Nat) ^ 60 + 1 ≤ 10 ^ 61) := Lib.hid (by rw [Nat.pow_succ 10 60]; have := Dc.pow10_pos 60; omega)
  clear hc hd hk hA hr hvl hV hQ hR hlt
  have tok1 : True := trivial
  go_enter Tryz.func20, Tryz.ntmps20
  go_wp2_with (first
    | (refine wl_boxA rfl (.tmp 0) rfl rfl (fun W2 b2 hb2 => ?_))
    | (refine wl_allocA rfl zero_dec rfl (fun W4 b4 hb4 => ?_); have l2 := b2.lt; have l22 := hb2.size; replace b2 := b2.keep hb4; have hB := below_step hb2 hb4; clear hb2 hb4)
    | (refine wl_loadA (ty := 23) b2 rfl (by kernel_rfl) _ rfl rfl ?_)
    | (go_at_call 14; refine (K1.out _).mono ?_; rintro e V1 ⟨rfl, hb⟩; replace hB := below_step hB hb; replace b2 := b2.keep hb; replace b4 := b4.keep hb; clear hb)
    | (refine wl_loadC b2 rfl (by kernel_rfl) _ rfl (j := 0) rfl rfl ?_)
    | (refine wl_loadC b2 rfl (by kernel_rfl) _ rfl (j := 1) rfl rfl ?_)
    | (refine wl_loadC b2 rfl (by kernel_rfl) _ rfl (j := 2) rfl rfl ?_)
    | (go_at_call 45; refine (CZ.out _).mono ?_; rintro e W6 ⟨⟨z, rfl, hz⟩, hb⟩; replace hB := below_step hB hb; replace b2 := b2.keep hb; replace b4 := b4.keep hb; have zl : z.size ≤ 60 := (by rw [← bts_length, hz, List.length_replicate]; omega); obtain ⟨un, hun⟩ : ∃ un, (⟨#[49]⟩ : ByteArray) ++ z = un := ⟨_, rfl⟩; have HUN := Lib.hid (show bts un = Dc.digs (10 ^ c) by rw [ten_digs, ← hun, str_add, hz]; rfl); have unl : un.size ≤ 61 := (by rw [← bts_length, HUN.out, ten_digs, List.length_cons, List.length_replicate]; omega); clear hz hb)
    | (go_at_call 53; refine (rover_any s un (by omega) (by omega) HDI.out (digs_is HUN.out) (by rw [val_of HUN.out]; exact Dc.pow10_pos c) _).mono ?_; rintro e W7 ⟨⟨qq, rr, rfl, hq, hrr⟩, hb⟩; replace hB := below_step hB hb; replace b2 := b2.keep hb; replace b4 := b4.keep hb; have HQQ := Lib.hid (show bts qq = Dc.digs Q by rw [hq, bts_digs, val_of HUN.out, HV.out, HQ.out]); have HRR := Lib.hid (show bts rr = Dc.digs R by rw [hrr, bts_digs, val_of HUN.out, HV.out, HR.out]); have ql : qq.size ≤ 60 := digs_size HQQ.out HQL.out (by decide); have rl : rr.size ≤ 60 := digs_size HRR.out HRL.out (by decide); obtain ⟨L, hL⟩ : ∃ L, qq.size = L + 1 := ⟨qq.size - 1, by have := Dc.digs_pos Q; rw [← HQQ.out, bts_length] at this; omega⟩; have hLt : L < qq.size := (by omega); obtain ⟨dg, hdg⟩ : ∃ dg, Q % 10 = dg := ⟨_, rfl⟩; have hdl : dg ≤ 9 := (by omega); have HDG := Lib.hid hdg; obtain ⟨cc, hcc⟩ : ∃ cc : Nat, 48 + dg = cc := ⟨_, rfl⟩; have hlast : (qq[L]'hLt).toNat = cc := (by rw [last_digit HQQ.out hL hLt, hdg, hcc]); have hdi : (cc : Int) - 48 = (dg : Int) := (by omega); have w8 : IntKind.u8.wrap (dg : Int) = (dg : Int) := (by rw [IntKind.wrap_u8]; omega); obtain ⟨od, hod⟩ : ∃ od, ((dg : Int) % 2 == 1) = od := ⟨_, rfl⟩; have hL9 : L ≤ 59 := (by omega); have HLL := Lib.hid hlast; clear hq hrr hb hdg hcc)
    | (go_at_call 57; have _t := tok1; refine (rplus_any rr rr (by omega) (by omega) (digs_is HRR.out) (digs_is HRR.out) _).mono ?_; rintro e W8 ⟨⟨tw, rfl, htw⟩, hb⟩; replace hB := below_step hB hb; replace b2 := b2.keep hb; replace b4 := b4.keep hb; have HTW := Lib.hid (show bts tw = Dc.digs (2 * R) by rw [htw, bts_digs, val_of HRR.out, Nat.two_mul]); have twl : tw.size ≤ 61 := digs_size HTW.out (by have := HRL.out; have := H10.out.1; omega) (by decide); have qe : (tw.toList == un.toList) = false := (by rw [str_beq HTW.out HUN.out]; exact decide_eq_false (by have := HA.out; omega)); clear htw hb tok1 _t)
    | (go_at_call 58; refine (rless_ord false (10 ^ c) (2 * R) (decide_eq_false (by have := HA.out; omega)) un tw (by omega) (by omega) (digs_is HUN.out) (digs_is HTW.out) (val_of HUN.out) (val_of HTW.out) _).mono ?_; rintro e W9 ⟨rfl, hb⟩; replace hB := below_step hB hb; replace b2 := b2.keep hb; replace b4 := b4.keep hb; clear hb)
    | (go_at_call 42; refine (rmade_is n qq K (by omega) (by omega) (digs_is HQQ.out) r (by rw [val_of HQQ.out]; exact HRS.out) _).mono ?_; rintro e W11 ⟨rfl, hb⟩; replace hB := below_step hB hb; replace b2 := b2.keep hb; replace b4 := b4.keep hb; clear hb)
    | (refine wl_storeA b4 rfl _ _ rfl rfl rfl (by kernel_rfl) rfl rfl rfl (fun W8 b8 hg => ?_); have hB8 := below_far hB hB.size (by omega) hg; clear hg))
  exact bodyPost_ret (res_cell_tmp rfl b8 (by kernel_rfl) rfl rfl) rfl ⟨rfl, hB8⟩
theorem rround_is (n : Bool) (s : ByteArray) (S K : Int) (hs : s.size ≤ 1000000) (r : Res) (hr : roundR n s S K = r) (w : World) : Calls Tryz.prog 20 #[.agg #[.bool n, .string s, .int .i64 S], .int .i64 K] w fun e w' => e = .returned (.tuple #[.agg #[.bool r.n, .string r.s, .int .i64 r.S], .int .i64 r.k]) ∧ Below w.heap.size w w' := by
  have T : ∀ {p : Prop} [Decidable p], p → decide p = true := fun h => decide_eq_true h
  have N : ∀ {p : Prop} [Decidable p], ¬ p → decide p = false := fun h => decide_eq_false h
  unfold roundR at hr
  cases h1 : okB n s S with
  | false => rw [if_neg (by rw [h1]; simp)] at hr; subst hr; exact rRound_no n s S K hs h1 w
  | true =>
    by_cases h3 : K < 0
    · rw [if_neg (fun h => by have := h.2.1; omega)] at hr; subst hr
      exact rRound_non n s S K hs h1 (T h3) w
    · by_cases h4 : 60 < K
      · rw [if_neg (fun h => by have := h.2.2; omega)] at hr; subst hr
        exact rRound_now n s S K hs h1 (N h3) (T h4) w
      · rw [if_pos ⟨h1, by omega, by omega⟩] at hr
        have k1 := okB_ok h1
        obtain ⟨L, rfl⟩ : ∃ L : Nat, K = L := ⟨K.toNat, by omega⟩
        obtain ⟨V, rfl⟩ : ∃ V : Nat, S = V := ⟨S.toNat, by have := k1.low; omega⟩
        have hV : V ≤ 60 := by have := k1.high; omega
        unfold Dc.roundD at hr
        by_cases hle : V ≤ L
        · rw [if_pos (show (rawD n s (V : Int)).2.2 ≤ (L : Int).toNat from hle), raw_res k1] at hr
          subst hr
          exact rRound_same n s V L hs hle (by omega) h1 w
        · rw [if_neg (show ¬ (rawD n s (V : Int)).2.2 ≤ (L : Int).toNat from hle)] at hr
          have hr' : resOf (Dc.can n (Dc.rndN (Dc.val (bts s)) (V - L)) L) = r := hr
          unfold Dc.rndN at hr'
          by_cases hA : 10 ^ (V - L) < 2 * (Dc.val (bts s) % 10 ^ (V - L))
          · rw [if_pos (.inl hA)] at hr'
            exact rRound_A n s V L _ rfl (by omega) k1.size hV k1.dig h1 hA r hr' w
          · by_cases hE : 2 * (Dc.val (bts s) % 10 ^ (V - L)) = 10 ^ (V - L)
            · by_cases hO : Dc.val (bts s) / 10 ^ (V - L) % 2 = 1
              · rw [if_pos (.inr ⟨hE, hO⟩)] at hr'
                exact rRound_B n s V L _ rfl (by omega) k1.size hV k1.dig h1 hE hO r hr' w
              · rw [if_neg (fun h => h.elim hA (fun h => hO h.2))] at hr'
                exact rRound_C n s V L _ rfl (by omega) k1.size hV k1.dig h1 hE hO r hr' w
            · rw [if_neg (fun h => h.elim hA (fun h => hE h.1))] at hr'
              exact rRound_D n s V L _ rfl (by omega) k1.size hV k1.dig h1 (by omega) r hr' w
end Go.Proofs.YthmmjihldkjhhaaGreatDoor
