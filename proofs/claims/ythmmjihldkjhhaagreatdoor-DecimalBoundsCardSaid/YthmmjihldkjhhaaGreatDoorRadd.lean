/-
  What Neg, Add, Sub and Mul of the reference return.
-/
import Derived.Test.YthmmjihldkjhhaaGreatDoorRsum
namespace Go.Proofs.YthmmjihldkjhhaaGreatDoor
open Go Go.RowKit

set_option maxRecDepth 100000 in
set_option maxHeartbeats 4000000 in
theorem rNeg_no (n : Bool) (s : ByteArray) (S : Int) (hs : s.size ≤ 1000000) (hk : okB n s S = false) (w : World) : Calls Tryz.prog 33 #[.agg #[.bool n, .string s, .int .i64 S]] w fun e w' => e = argR.ret ∧ Below w.heap.size w w' := by
  have K1 : Hid _ := Lib.hid (rcheck_r n s S hs 2 (ck_no hk))
  clear hk
  go_enter Tryz.func33, Tryz.ntmps33
  go_wp2_with (first
    | (refine wl_boxA rfl (.tmp 0) rfl rfl (fun W2 b2 hb2 => ?_))
    | (refine wl_allocA rfl zero_dec rfl (fun W4 b4 hb4 => ?_); have l2 := b2.lt; have l22 := hb2.size; replace b2 := b2.keep hb4; have hB := below_step hb2 hb4; clear hb2 hb4)
    | (refine wl_loadA (ty := 23) b2 rfl (by kernel_rfl) _ rfl rfl ?_)
    | (go_at_call 14; refine (K1.out _).mono ?_; rintro e V1 ⟨rfl, hb⟩; replace hB := below_step hB hb; replace b2 := b2.keep hb; replace b4 := b4.keep hb; clear hb)
    | (refine wl_storeA b4 rfl _ _ rfl rfl rfl (by kernel_rfl) rfl rfl rfl (fun W8 b8 hg => ?_); have hB8 := below_far hB hB.size (by omega) hg; clear hg))
  exact bodyPost_ret (res_cell_tmp rfl b8 (by kernel_rfl) rfl rfl) rfl ⟨rfl, hB8⟩
set_option maxRecDepth 100000 in
set_option maxHeartbeats 4000000 in
theorem rNeg_yes (n : Bool) (s : ByteArray) (S : Int) (hs : s.size ≤ 1000000) (hk : okB n s S = true) (w : World) : Calls Tryz.prog 33 #[.agg #[.bool n, .string s, .int .i64 S]] w fun e w' => e = .returned (.tuple #[.agg #[.bool (oppN n s), .string s, .int .i64 S], .int .i64 0]) ∧ Below w.heap.size w w' := by
  have K1 : Hid _ := Lib.hid (rcheck_r n s S hs 0 (ck_yes hk))
  have CO : Hid _ := Lib.hid (ropp_any n s S)
  clear hk
  obtain ⟨x, hx⟩ : ∃ x, oppN n s = x := ⟨_, rfl⟩
  rw [hx] at CO ⊢
  clear hx
  go_enter Tryz.func33, Tryz.ntmps33
  go_wp2_with (first
    | (refine wl_boxA rfl (.tmp 0) rfl rfl (fun W2 b2 hb2 => ?_))
    | (refine wl_allocA rfl zero_dec rfl (fun W4 b4 hb4 => ?_); have l2 := b2.lt; have l22 := hb2.size; replace b2 := b2.keep hb4; have hB := below_step hb2 hb4; clear hb2 hb4)
    | (refine wl_loadA (ty := 23) b2 rfl (by kernel_rfl) _ rfl rfl ?_)
    | (go_at_call 14; refine (K1.out _).mono ?_; rintro e V1 ⟨rfl, hb⟩; replace hB := below_step hB hb; replace b2 := b2.keep hb; replace b4 := b4.keep hb; clear hb)
    | (go_at_call 63; refine (CO.out _).mono ?_; rintro e W6 ⟨rfl, hb⟩; replace hB := below_step hB hb; replace b4 := b4.keep hb; clear hb)
    | (refine wl_storeA b4 rfl _ _ rfl rfl rfl (by kernel_rfl) rfl rfl rfl (fun W8 b8 hg => ?_); have hB8 := below_far hB hB.size (by omega) hg; clear hg))
  exact bodyPost_ret (res_cell_tmp rfl b8 (by kernel_rfl) rfl rfl) rfl ⟨rfl, hB8⟩
theorem rneg_is (n : Bool) (s : ByteArray) (S : Int) (hs : s.size ≤ 1000000) (r : Res) (hr : negR n s S = r) (w : World) : Calls Tryz.prog 33 #[.agg #[.bool n, .string s, .int .i64 S]] w fun e w' => e = .returned (.tuple #[.agg #[.bool r.n, .string r.s, .int .i64 r.S], .int .i64 r.k]) ∧ Below w.heap.size w w' := by
  subst hr
  cases hk : okB n s S with
  | false => rw [show negR n s S = argR from if_neg (by rw [hk]; decide)]; exact rNeg_no n s S hs hk w
  | true =>
    have h := okB_ok hk
    rw [show negR n s S = ⟨oppN n s, s, S, 0⟩ by rw [negR, if_pos hk, opp_raw h, raw_res h]]
    exact rNeg_yes n s S hs hk w
set_option maxRecDepth 100000 in
set_option maxHeartbeats 4000000 in
theorem rAdd_no1 (n : Bool) (s : ByteArray) (S : Int) (m : Bool) (t : ByteArray) (U : Int) (hs : s.size ≤ 1000000) (hk : okB n s S = false) (w : World) : Calls Tryz.prog 29 #[.agg #[.bool n, .string s, .int .i64 S], .agg #[.bool m, .string t, .int .i64 U]] w fun e w' => e = argR.ret ∧ Below w.heap.size w w' := by
  have K1 : Hid _ := Lib.hid (rcheck_r n s S hs 2 (ck_no hk))
  clear hk
  go_enter Tryz.func29, Tryz.ntmps29
  go_wp2_with (first
    | (refine wl_boxA rfl (.tmp 0) rfl rfl (fun W2 b2 hb2 => ?_))
    | (refine wl_boxA rfl (.tmp 1) rfl rfl (fun W3 b3 hb3 => ?_); have l2 := b2.lt; have l22 := hb2.size; replace b2 := b2.keep hb3; have l3 := b3.lt)
    | (refine wl_allocA rfl zero_dec rfl (fun W4 b4 hb4 => ?_); replace b2 := b2.keep hb4; replace b3 := b3.keep hb4; have hB := below_step (below_step hb2 hb3) hb4; clear hb2 hb3 hb4)
    | (refine wl_loadA (ty := 23) b2 rfl (by kernel_rfl) _ rfl rfl ?_)
    | (refine wl_loadA (ty := 23) b3 rfl (by kernel_rfl) _ rfl rfl ?_)
    | (go_at_call 14; refine (K1.out _).mono ?_; rintro e V1 ⟨rfl, hb⟩; replace hB := below_step hB hb; replace b2 := b2.keep hb; replace b3 := b3.keep hb; replace b4 := b4.keep hb; clear hb)
    | (refine wl_storeA b4 rfl _ _ rfl rfl rfl (by kernel_rfl) rfl rfl rfl (fun W8 b8 hg => ?_); have hB8 := below_far hB hB.size (by omega) hg; clear hg))
  exact bodyPost_ret (res_cell_tmp rfl b8 (by kernel_rfl) rfl rfl) rfl ⟨rfl, hB8⟩
set_option maxRecDepth 100000 in
set_option maxHeartbeats 4000000 in
theorem rAdd_no2 (n : Bool) (s : ByteArray) (S : Int) (m : Bool) (t : ByteArray) (U : Int) (hs : s.size ≤ 1000000) (ht : t.size ≤ 1000000) (hk1 : okB n s S = true) (hk : okB m t U = false) (w : World) : Calls Tryz.prog 29 #[.agg #[.bool n, .string s, .int .i64 S], .agg #[.bool m, .string t, .int .i64 U]] w fun e w' => e = argR.ret ∧ Below w.heap.size w w' := by
  have K1 : Hid _ := Lib.hid (rcheck_r n s S hs 0 (ck_yes hk1))
  have K2 : Hid _ := Lib.hid (rcheck_r m t U ht 2 (ck_no hk))
  clear hk1 hk
  have tok1 : True := trivial
  go_enter Tryz.func29, Tryz.ntmps29
  go_wp2_with (first
    | (refine wl_boxA rfl (.tmp 0) rfl rfl (fun W2 b2 hb2 => ?_))
    | (refine wl_boxA rfl (.tmp 1) rfl rfl (fun W3 b3 hb3 => ?_); have l2 := b2.lt; have l22 := hb2.size; replace b2 := b2.keep hb3; have l3 := b3.lt)
    | (refine wl_allocA rfl zero_dec rfl (fun W4 b4 hb4 => ?_); replace b2 := b2.keep hb4; replace b3 := b3.keep hb4; have hB := below_step (below_step hb2 hb3) hb4; clear hb2 hb3 hb4)
    | (refine wl_loadA (ty := 23) b2 rfl (by kernel_rfl) _ rfl rfl ?_)
    | (refine wl_loadA (ty := 23) b3 rfl (by kernel_rfl) _ rfl rfl ?_)
    | (go_at_call 14; have _t := tok1; refine (K1.out _).mono ?_; rintro e V1 ⟨rfl, hb⟩; replace hB := below_step hB hb; replace b2 := b2.keep hb; replace b3 := b3.keep hb; replace b4 := b4.keep hb; clear hb; clear tok1 _t)
    | (go_at_call 14; refine (K2.out _).mono ?_; rintro e V2 ⟨rfl, hb⟩; replace hB := below_step hB hb; replace b2 := b2.keep hb; replace b3 := b3.keep hb; replace b4 := b4.keep hb; clear hb)
    | (refine wl_storeA b4 rfl _ _ rfl rfl rfl (by kernel_rfl) rfl rfl rfl (fun W8 b8 hg => ?_); have hB8 := below_far hB hB.size (by omega) hg; clear hg))
  exact bodyPost_ret (res_cell_tmp rfl b8 (by kernel_rfl) rfl rfl) rfl ⟨rfl, hB8⟩
set_option maxRecDepth 100000 in
set_option maxHeartbeats 4000000 in
theorem rSub_no1 (n : Bool) (s : ByteArray) (S : Int) (m : Bool) (t : ByteArray) (U : Int) (hs : s.size ≤ 1000000) (hk : okB n s S = false) (w : World) : Calls Tryz.prog 30 #[.agg #[.bool n, .string s, .int .i64 S], .agg #[.bool m, .string t, .int .i64 U]] w fun e w' => e = argR.ret ∧ Below w.heap.size w w' := by
  have K1 : Hid _ := Lib.hid (rcheck_r n s S hs 2 (ck_no hk))
  clear hk
  go_enter Tryz.func30, Tryz.ntmps30
  go_wp2_with (first
    | (refine wl_boxA rfl (.tmp 0) rfl rfl (fun W2 b2 hb2 => ?_))
    | (refine wl_boxA rfl (.tmp 1) rfl rfl (fun W3 b3 hb3 => ?_); have l2 := b2.lt; have l22 := hb2.size; replace b2 := b2.keep hb3; have l3 := b3.lt)
    | (refine wl_allocA rfl zero_dec rfl (fun W4 b4 hb4 => ?_); replace b2 := b2.keep hb4; replace b3 := b3.keep hb4; have hB := below_step (below_step hb2 hb3) hb4; clear hb2 hb3 hb4)
    | (refine wl_loadA (ty := 23) b2 rfl (by kernel_rfl) _ rfl rfl ?_)
    | (refine wl_loadA (ty := 23) b3 rfl (by kernel_rfl) _ rfl rfl ?_)
    | (go_at_call 14; refine (K1.out _).mono ?_; rintro e V1 ⟨rfl, hb⟩; replace hB := below_step hB hb; replace b2 := b2.keep hb; replace b3 := b3.keep hb; replace b4 := b4.keep hb; clear hb)
    | (refine wl_storeA b4 rfl _ _ rfl rfl rfl (by kernel_rfl) rfl rfl rfl (fun W8 b8 hg => ?_); have hB8 := below_far hB hB.size (by omega) hg; clear hg))
  exact bodyPost_ret (res_cell_tmp rfl b8 (by kernel_rfl) rfl rfl) rfl ⟨rfl, hB8⟩
set_option maxRecDepth 100000 in
set_option maxHeartbeats 4000000 in
theorem rSub_no2 (n : Bool) (s : ByteArray) (S : Int) (m : Bool) (t : ByteArray) (U : Int) (hs : s.size ≤ 1000000) (ht : t.size ≤ 1000000) (hk1 : okB n s S = true) (hk : okB m t U = false) (w : World) : Calls Tryz.prog 30 #[.agg #[.bool n, .string s, .int .i64 S], .agg #[.bool m, .string t, .int .i64 U]] w fun e w' => e = argR.ret ∧ Below w.heap.size w w' := by
  have K1 : Hid _ := Lib.hid (rcheck_r n s S hs 0 (ck_yes hk1))
  have K2 : Hid _ := Lib.hid (rcheck_r m t U ht 2 (ck_no hk))
  clear hk1 hk
  have tok1 : True := trivial
  go_enter Tryz.func30, Tryz.ntmps30
  go_wp2_with (first
    | (refine wl_boxA rfl (.tmp 0) rfl rfl (fun W2 b2 hb2 => ?_))
    | (refine wl_boxA rfl (.tmp 1) rfl rfl (fun W3 b3 hb3 => ?_); have l2 := b2.lt; have l22 := hb2.size; replace b2 := b2.keep hb3; have l3 := b3.lt)
    | (refine wl_allocA rfl zero_dec rfl (fun W4 b4 hb4 => ?_); replace b2 := b2.keep hb4; replace b3 := b3.keep hb4; have hB := below_step (below_step hb2 hb3) hb4; clear hb2 hb3 hb4)
    | (refine wl_loadA (ty := 23) b2 rfl (by kernel_rfl) _ rfl rfl ?_)
    | (refine wl_loadA (ty := 23) b3 rfl (by kernel_rfl) _ rfl rfl ?_)
    | (go_at_call 14; have _t := tok1; refine (K1.out _).mono ?_; rintro e V1 ⟨rfl, hb⟩; replace hB := below_step hB hb; replace b2 := b2.keep hb; replace b3 := b3.keep hb; replace b4 := b4.keep hb; clear hb; clear tok1 _t)
    | (go_at_call 14; refine (K2.out _).mono ?_; rintro e V2 ⟨rfl, hb⟩; replace hB := below_step hB hb; replace b2 := b2.keep hb; replace b3 := b3.keep hb; replace b4 := b4.keep hb; clear hb)
    | (refine wl_storeA b4 rfl _ _ rfl rfl rfl (by kernel_rfl) rfl rfl rfl (fun W8 b8 hg => ?_); have hB8 := below_far hB hB.size (by omega) hg; clear hg))
  exact bodyPost_ret (res_cell_tmp rfl b8 (by kernel_rfl) rfl rfl) rfl ⟨rfl, hB8⟩
set_option maxRecDepth 100000 in
set_option maxHeartbeats 4000000 in
theorem rMul_no1 (n : Bool) (s : ByteArray) (S : Int) (m : Bool) (t : ByteArray) (U : Int) (hs : s.size ≤ 1000000) (hk : okB n s S = false) (w : World) : Calls Tryz.prog 31 #[.agg #[.bool n, .string s, .int .i64 S], .agg #[.bool m, .string t, .int .i64 U]] w fun e w' => e = argR.ret ∧ Below w.heap.size w w' := by
  have K1 : Hid _ := Lib.hid (rcheck_r n s S hs 2 (ck_no hk))
  clear hk
  go_enter Tryz.func31, Tryz.ntmps31
  go_wp2_with (first
    | (refine wl_boxA rfl (.tmp 0) rfl rfl (fun W2 b2 hb2 => ?_))
    | (refine wl_boxA rfl (.tmp 1) rfl rfl (fun W3 b3 hb3 => ?_); have l2 := b2.lt; have l22 := hb2.size; replace b2 := b2.keep hb3; have l3 := b3.lt)
    | (refine wl_allocA rfl zero_dec rfl (fun W4 b4 hb4 => ?_); replace b2 := b2.keep hb4; replace b3 := b3.keep hb4; have hB := below_step (below_step hb2 hb3) hb4; clear hb2 hb3 hb4)
    | (refine wl_loadA (ty := 23) b2 rfl (by kernel_rfl) _ rfl rfl ?_)
    | (refine wl_loadA (ty := 23) b3 rfl (by kernel_rfl) _ rfl rfl ?_)
    | (go_at_call 14; refine (K1.out _).mono ?_; rintro e V1 ⟨rfl, hb⟩; replace hB := below_step hB hb; replace b2 := b2.keep hb; replace b3 := b3.keep hb; replace b4 := b4.keep hb; clear hb)
    | (refine wl_storeA b4 rfl _ _ rfl rfl rfl (by kernel_rfl) rfl rfl rfl (fun W8 b8 hg => ?_); have hB8 := below_far hB hB.size (by omega) hg; clear hg))
  exact bodyPost_ret (res_cell_tmp rfl b8 (by kernel_rfl) rfl rfl) rfl ⟨rfl, hB8⟩
set_option maxRecDepth 100000 in
set_option maxHeartbeats 4000000 in
theorem rMul_no2 (n : Bool) (s : ByteArray) (S : Int) (m : Bool) (t : ByteArray) (U : Int) (hs : s.size ≤ 1000000) (ht : t.size ≤ 1000000) (hk1 : okB n s S = true) (hk : okB m t U = false) (w : World) : Calls Tryz.prog 31 #[.agg #[.bool n, .string s, .int .i64 S], .agg #[.bool m, .string t, .int .i64 U]] w fun e w' => e = argR.ret ∧ Below w.heap.size w w' := by
  have K1 : Hid _ := Lib.hid (rcheck_r n s S hs 0 (ck_yes hk1))
  have K2 : Hid _ := Lib.hid (rcheck_r m t U ht 2 (ck_no hk))
  clear hk1 hk
  have tok1 : True := trivial
  go_enter Tryz.func31, Tryz.ntmps31
  go_wp2_with (first
    | (refine wl_boxA rfl (.tmp 0) rfl rfl (fun W2 b2 hb2 => ?_))
    | (refine wl_boxA rfl (.tmp 1) rfl rfl (fun W3 b3 hb3 => ?_); have l2 := b2.lt; have l22 := hb2.size; replace b2 := b2.keep hb3; have l3 := b3.lt)
    | (refine wl_allocA rfl zero_dec rfl (fun W4 b4 hb4 => ?_); replace b2 := b2.keep hb4; replace b3 := b3.keep hb4; have hB := below_step (below_step hb2 hb3) hb4; clear hb2 hb3 hb4)
    | (refine wl_loadA (ty := 23) b2 rfl (by kernel_rfl) _ rfl rfl ?_)
    | (refine wl_loadA (ty := 23) b3 rfl (by kernel_rfl) _ rfl rfl ?_)
    | (go_at_call 14; have _t := tok1; refine (K1.out _).mono ?_; rintro e V1 ⟨rfl, hb⟩; replace hB := below_step hB hb; replace b2 := b2.keep hb; replace b3 := b3.keep hb; replace b4 := b4.keep hb; clear hb; clear tok1 _t)
    | (go_at_call 14; refine (K2.out _).mono ?_; rintro e V2 ⟨rfl, hb⟩; replace hB := below_step hB hb; replace b2 := b2.keep hb; replace b3 := b3.keep hb; replace b4 := b4.keep hb; clear hb)
    | (refine wl_storeA b4 rfl _ _ rfl rfl rfl (by kernel_rfl) rfl rfl rfl (fun W8 b8 hg => ?_); have hB8 := below_far hB hB.size (by omega) hg; clear hg))
  exact bodyPost_ret (res_cell_tmp rfl b8 (by kernel_rfl) rfl rfl) rfl ⟨rfl, hB8⟩
set_option maxRecDepth 100000 in
set_option maxHeartbeats 4000000 in
theorem rAdd_yes (n : Bool) (s : ByteArray) (S : Int) (m : Bool) (t : ByteArray) (U : Int) (hk1 : okB n s S = true) (hk2 : okB m t U = true) (r : Res) (hr : resOf (Dc.addD (rawD n s S) (rawD m t U)) = r) (w : World) : Calls Tryz.prog 29 #[.agg #[.bool n, .string s, .int .i64 S], .agg #[.bool m, .string t, .int .i64 U]] w fun e w' => e = .returned (.tuple #[.agg #[.bool r.n, .string r.s, .int .i64 r.S], .int .i64 r.k]) ∧ Below w.heap.size w w' := by
  have h1 := okB_ok hk1
  have h2 := okB_ok hk2
  obtain ⟨T, rfl⟩ : ∃ T : Nat, S = T := ⟨S.toNat, by have := h1.low; omega⟩
  obtain ⟨V, rfl⟩ : ∃ V : Nat, U = V := ⟨U.toNat, by have := h2.low; omega⟩
  have hT : T ≤ 60 := by have := h1.high; omega
  have hV : V ≤ 60 := by have := h2.high; omega
  have K1 : Hid _ := Lib.hid (rcheck_r n s (T : Int) (by have := h1.size; omega) 0 (ck_yes hk1))
  have K2 : Hid _ := Lib.hid (rcheck_r m t (V : Int) (by have := h2.size; omega) 0 (ck_yes hk2))
  have CS : Hid _ := Lib.hid (rsum_any n m s t T V _ rfl h1.size h2.size hT hV h1.dig h2.dig r (by rw [← hr]; rfl))
  clear h1 h2 hk1 hk2 hr
  have tok1 : True := trivial
  go_enter Tryz.func29, Tryz.ntmps29
  go_wp2_with (first
    | (refine wl_boxA rfl (.tmp 0) rfl rfl (fun W2 b2 hb2 => ?_))
    | (refine wl_boxA rfl (.tmp 1) rfl rfl (fun W3 b3 hb3 => ?_); have l2 := b2.lt; have l22 := hb2.size; replace b2 := b2.keep hb3; have l3 := b3.lt)
    | (refine wl_allocA rfl zero_dec rfl (fun W4 b4 hb4 => ?_); replace b2 := b2.keep hb4; replace b3 := b3.keep hb4; have hB := below_step (below_step hb2 hb3) hb4; clear hb2 hb3 hb4)
    | (refine wl_loadA (ty := 23) b2 rfl (by kernel_rfl) _ rfl rfl ?_)
    | (refine wl_loadA (ty := 23) b3 rfl (by kernel_rfl) _ rfl rfl ?_)
    | (go_at_call 14; have _t := tok1; refine (K1.out _).mono ?_; rintro e V1 ⟨rfl, hb⟩; replace hB := below_step hB hb; replace b2 := b2.keep hb; replace b3 := b3.keep hb; replace b4 := b4.keep hb; clear hb; clear tok1 _t)
    | (go_at_call 14; refine (K2.out _).mono ?_; rintro e V2 ⟨rfl, hb⟩; replace hB := below_step hB hb; replace b2 := b2.keep hb; replace b3 := b3.keep hb; replace b4 := b4.keep hb; clear hb)
    | (go_at_call 62; refine (CS.out _).mono ?_; rintro e W6 ⟨rfl, hb⟩; replace hB := below_step hB hb; replace b4 := b4.keep hb; clear hb)
    | (refine wl_storeA b4 rfl _ _ rfl rfl rfl (by kernel_rfl) rfl rfl rfl (fun W8 b8 hg => ?_); have hB8 := below_far hB hB.size (by omega) hg; clear hg))
  exact bodyPost_ret (res_cell_tmp rfl b8 (by kernel_rfl) rfl rfl) rfl ⟨rfl, hB8⟩
set_option maxRecDepth 100000 in
set_option maxHeartbeats 4000000 in
theorem rSub_yes (n : Bool) (s : ByteArray) (S : Int) (m : Bool) (t : ByteArray) (U : Int) (hk1 : okB n s S = true) (hk2 : okB m t U = true) (r : Res) (hr : resOf (Dc.subD (rawD n s S) (rawD m t U)) = r) (w : World) : Calls Tryz.prog 30 #[.agg #[.bool n, .string s, .int .i64 S], .agg #[.bool m, .string t, .int .i64 U]] w fun e w' => e = .returned (.tuple #[.agg #[.bool r.n, .string r.s, .int .i64 r.S], .int .i64 r.k]) ∧ Below w.heap.size w w' := by
  have h1 := okB_ok hk1
  have h2 := okB_ok hk2
  obtain ⟨T, rfl⟩ : ∃ T : Nat, S = T := ⟨S.toNat, by have := h1.low; omega⟩
  obtain ⟨V, rfl⟩ : ∃ V : Nat, U = V := ⟨U.toNat, by have := h2.low; omega⟩
  have hT : T ≤ 60 := by have := h1.high; omega
  have hV : V ≤ 60 := by have := h2.high; omega
  have K1 : Hid _ := Lib.hid (rcheck_r n s (T : Int) (by have := h1.size; omega) 0 (ck_yes hk1))
  have K2 : Hid _ := Lib.hid (rcheck_r m t (V : Int) (by have := h2.size; omega) 0 (ck_yes hk2))
  have CS : Hid _ := Lib.hid (rsum_any n (oppN m t) s t T V _ rfl h1.size h2.size hT hV h1.dig h2.dig r (by rw [← hr, Dc.subD, opp_raw h2]; rfl))
  have CO : Hid _ := Lib.hid (ropp_any m t (V : Int))
  obtain ⟨x, hx⟩ : ∃ x, oppN m t = x := ⟨_, rfl⟩
  rw [hx] at CO CS
  clear h1 h2 hk1 hk2 hr hx
  have tok1 : True := trivial
  go_enter Tryz.func30, Tryz.ntmps30
  go_wp2_with (first
    | (refine wl_boxA rfl (.tmp 0) rfl rfl (fun W2 b2 hb2 => ?_))
    | (refine wl_boxA rfl (.tmp 1) rfl rfl (fun W3 b3 hb3 => ?_); have l2 := b2.lt; have l22 := hb2.size; replace b2 := b2.keep hb3; have l3 := b3.lt)
    | (refine wl_allocA rfl zero_dec rfl (fun W4 b4 hb4 => ?_); replace b2 := b2.keep hb4; replace b3 := b3.keep hb4; have hB := below_step (below_step hb2 hb3) hb4; clear hb2 hb3 hb4)
    | (refine wl_loadA (ty := 23) b2 rfl (by kernel_rfl) _ rfl rfl ?_)
    | (refine wl_loadA (ty := 23) b3 rfl (by kernel_rfl) _ rfl rfl ?_)
    | (go_at_call 14; have _t := tok1; refine (K1.out _).mono ?_; rintro e V1 ⟨rfl, hb⟩; replace hB := below_step hB hb; replace b2 := b2.keep hb; replace b3 := b3.keep hb; replace b4 := b4.keep hb; clear hb; clear tok1 _t)
    | (go_at_call 14; refine (K2.out _).mono ?_; rintro e V2 ⟨rfl, hb⟩; replace hB := below_step hB hb; replace b2 := b2.keep hb; replace b3 := b3.keep hb; replace b4 := b4.keep hb; clear hb))
  refine wp_region_held_drew (S := fun W : World => Below w.heap.size w W ∧ Blk W w.heap.size 23 #[.bool n, .string s, .int .i64 (T : Int)] ∧ Blk W W2.heap.size 23 #[.bool m, .string t, .int .i64 (V : Int)]) (by kernel_rfl) ⟨below_step hB (below_drew _), b2.drew, b3.drew⟩ (fun hS => ?_)
  replace b4 := b4.drew
  refine takeH (i := 0) (d := some 15) (v := _) rfl rfl (by kernel_rfl) (by kernel_rfl) (by kernel_rfl) (fun _ _ _ h => h) (yields_A rfl (by rfl) (by kernel_rfl) _ rfl rfl (fun W hW => hW.2.1)) hS ?_
  simp only [Act.put, List.setIfInBounds_toArray, List.set_cons_zero, List.set_cons_succ]
  refine takeH (i := 1) (d := some 16) (v := _) rfl rfl (by kernel_rfl) (by kernel_rfl) (by kernel_rfl) (fun _ _ _ h => h) (yields_A rfl (by rfl) (by kernel_rfl) _ rfl rfl (fun W hW => hW.2.2)) hS ?_
  simp only [Act.put, List.setIfInBounds_toArray, List.set_cons_zero, List.set_cons_succ]
  refine wpAnyH_ready (rs := [2]) (by kernel_rfl) (by simp) ?_
  refine AllReadyH.cons rfl (fun Kc hKc => ?_) AllReadyH.nil
  go_simp
  refine (CO.out _).mono ?_
  rintro e W6 ⟨rfl, hb⟩
  replace b4 := b4.keep hb
  refine hKc.out _ _ ⟨below_step hS.1 hb, hS.2.1.keep hb, hS.2.2.keep hb⟩ (fun hS => ?_)
  clear hKc Kc
  refine wpAnyH_ready (rs := [3]) (by kernel_rfl) (by simp) ?_
  refine AllReadyH.cons rfl (fun Kc hKc => ?_) AllReadyH.nil
  go_simp
  refine (CS.out _).mono ?_
  rintro e W7 ⟨rfl, hb⟩
  replace b4 := b4.keep hb
  refine hKc.out _ _ ⟨below_step hS.1 hb, hS.2.1.keep hb, hS.2.2.keep hb⟩ (fun hS => ?_)
  clear hKc Kc
  refine takeH (i := 4) (d := some 19) (v := ?v50) rfl rfl (by kernel_rfl) (by kernel_rfl) (by kernel_rfl) (fun _ _ _ h => h) (Or.inl ⟨by rfl, ?h50⟩) hS ?_
  case h50 => intro W _; go_simp; try with_reducible rfl
  simp only [Act.put, List.setIfInBounds_toArray, List.set_cons_zero, List.set_cons_succ]
  refine takeH (i := 5) (d := some 20) (v := ?v51) rfl rfl (by kernel_rfl) (by kernel_rfl) (by kernel_rfl) (fun _ _ _ h => h) (Or.inl ⟨by rfl, ?h51⟩) hS ?_
  case h51 => intro W _; go_simp; try with_reducible rfl
  simp only [Act.put, List.setIfInBounds_toArray, List.set_cons_zero, List.set_cons_succ]
  refine wpAnyH_ready (rs := [6]) (by kernel_rfl) (by simp) ?_
  refine AllReadyH.cons rfl (fun Kc hKc => ?_) AllReadyH.nil
  refine st_of rfl (wp_storeA b4 _ _ rfl rfl rfl (by kernel_rfl) rfl rfl rfl (fun W8 b8 hg => ?_))
  refine hKc.out _ _ ⟨below_far hS.1 hS.1.size (by omega) hg, hS.2.1.far hg (by omega), hS.2.2.far hg (by omega)⟩ (fun hS => ?_)
  clear hKc Kc
  refine takeH (i := 7) (d := some 5) (v := ?v52) rfl rfl (by kernel_rfl) (by kernel_rfl) (by kernel_rfl) (fun _ _ _ h => h) (Or.inl ⟨by rfl, ?h52⟩) hS ?_
  case h52 => intro W _; go_simp; try with_reducible rfl
  simp only [Act.put, List.setIfInBounds_toArray, List.set_cons_zero, List.set_cons_succ]
  refine wpAnyH_done (by kernel_rfl) ?_ _
  go_wp2
  exact bodyPost_ret (res_cell_tmp rfl b8 (by kernel_rfl) rfl rfl) rfl ⟨rfl, hS.1⟩
set_option maxRecDepth 100000 in
set_option maxHeartbeats 4000000 in
theorem rMul_yes (n : Bool) (s : ByteArray) (S : Int) (m : Bool) (t : ByteArray) (U : Int) (hk1 : okB n s S = true) (hk2 : okB m t U = true) (r : Res) (hr : resOf (Dc.mulD (rawD n s S) (rawD m t U)) = r) (w : World) : Calls Tryz.prog 31 #[.agg #[.bool n, .string s, .int .i64 S], .agg #[.bool m, .string t, .int .i64 U]] w fun e w' => e = .returned (.tuple #[.agg #[.bool r.n, .string r.s, .int .i64 r.S], .int .i64 r.k]) ∧ Below w.heap.size w w' := by
  have h1 := okB_ok hk1
  have h2 := okB_ok hk2
  obtain ⟨T, rfl⟩ : ∃ T : Nat, S = T := ⟨S.toNat, by have := h1.low; omega⟩
  obtain ⟨V, rfl⟩ : ∃ V : Nat, U = V := ⟨U.toNat, by have := h2.low; omega⟩
  have hT : T ≤ 60 := by have := h1.high; omega
  have hV : V ≤ 60 := by have := h2.high; omega
  have K1 : Hid _ := Lib.hid (rcheck_r n s (T : Int) (by have := h1.size; omega) 0 (ck_yes hk1))
  have K2 : Hid _ := Lib.hid (rcheck_r m t (V : Int) (by have := h2.size; omega) 0 (ck_yes hk2))
  obtain ⟨K, hK⟩ : ∃ K, T + V = K := ⟨_, rfl⟩
  have CT : Hid _ := Lib.hid (rtimes_any s t (by have := h1.size; omega) (by have := h2.size; omega) h1.dig h2.dig)
  have HL : Hid _ := Lib.hid (mul_low h1.size h2.size h1.dig.all h2.dig.all)
  have HR : Hid (resOf (Dc.can (n != m) (Dc.val (bts s) * Dc.val (bts t)) K) = r) := Lib.hid (by rw [← hK, ← Dc.mulD_can, ← hr]; rfl)
  have eK : IntKind.i64.wrap ((T : Int) + (V : Int)) = (K : Int) := by rw [IntKind.wrap_i64]; omega
  have hKl : K ≤ 120 := by omega
  clear h1 h2 hk1 hk2 hr hK
  have tok1 : True := trivial
  go_enter Tryz.func31, Tryz.ntmps31
  go_wp2_with (first
    | (refine wl_boxA rfl (.tmp 0) rfl rfl (fun W2 b2 hb2 => ?_))
    | (refine wl_boxA rfl (.tmp 1) rfl rfl (fun W3 b3 hb3 => ?_); have l2 := b2.lt; have l22 := hb2.size; replace b2 := b2.keep hb3; have l3 := b3.lt)
    | (refine wl_allocA rfl zero_dec rfl (fun W4 b4 hb4 => ?_); replace b2 := b2.keep hb4; replace b3 := b3.keep hb4; have hB := below_step (below_step hb2 hb3) hb4; clear hb2 hb3 hb4)
    | (refine wl_loadA (ty := 23) b2 rfl (by kernel_rfl) _ rfl rfl ?_)
    | (refine wl_loadA (ty := 23) b3 rfl (by kernel_rfl) _ rfl rfl ?_)
    | (go_at_call 14; have _t := tok1; refine (K1.out _).mono ?_; rintro e V1 ⟨rfl, hb⟩; replace hB := below_step hB hb; replace b2 := b2.keep hb; replace b3 := b3.keep hb; replace b4 := b4.keep hb; clear hb; clear tok1 _t)
    | (go_at_call 14; refine (K2.out _).mono ?_; rintro e V2 ⟨rfl, hb⟩; replace hB := below_step hB hb; replace b2 := b2.keep hb; replace b3 := b3.keep hb; replace b4 := b4.keep hb; clear hb))
  refine wp_region_held_drew (S := fun W : World => Below w.heap.size w W ∧ Blk W w.heap.size 23 #[.bool n, .string s, .int .i64 (T : Int)] ∧ Blk W W2.heap.size 23 #[.bool m, .string t, .int .i64 (V : Int)]) (by kernel_rfl) ⟨below_step hB (below_drew _), b2.drew, b3.drew⟩ (fun hS => ?_)
  replace b4 := b4.drew
  refine takeH (i := 0) (d := some 15) (v := ?v53) rfl rfl (by kernel_rfl) (by kernel_rfl) (by kernel_rfl) (fun _ _ _ h => h) (Or.inl ⟨by rfl, ?h53⟩) hS ?_
  case h53 => intro W _; go_simp; try with_reducible rfl
  simp only [Act.put, List.setIfInBounds_toArray, List.set_cons_zero, List.set_cons_succ]
  refine takeH (i := 1) (d := some 16) (v := .bool n) rfl rfl (by kernel_rfl) (by kernel_rfl) (by kernel_rfl) (fun _ _ _ h => h) (yields_C rfl (by rfl) (by kernel_rfl) _ rfl (j := 0) rfl rfl (fun W hW => hW.2.1)) hS ?_
  simp only [Act.put, List.setIfInBounds_toArray, List.set_cons_zero, List.set_cons_succ]
  refine takeH (i := 2) (d := some 17) (v := ?v54) rfl rfl (by kernel_rfl) (by kernel_rfl) (by kernel_rfl) (fun _ _ _ h => h) (Or.inl ⟨by rfl, ?h54⟩) hS ?_
  case h54 => intro W _; go_simp; try with_reducible rfl
  simp only [Act.put, List.setIfInBounds_toArray, List.set_cons_zero, List.set_cons_succ]
  refine takeH (i := 3) (d := some 18) (v := .bool m) rfl rfl (by kernel_rfl) (by kernel_rfl) (by kernel_rfl) (fun _ _ _ h => h) (yields_C rfl (by rfl) (by kernel_rfl) _ rfl (j := 0) rfl rfl (fun W hW => hW.2.2)) hS ?_
  simp only [Act.put, List.setIfInBounds_toArray, List.set_cons_zero, List.set_cons_succ]
  refine takeH (i := 4) (d := some 19) (v := ?v55) rfl rfl (by kernel_rfl) (by kernel_rfl) (by kernel_rfl) (fun _ _ _ h => h) (Or.inl ⟨by rfl, ?h55⟩) hS ?_
  case h55 => intro W _; go_simp; try with_reducible rfl
  simp only [Act.put, List.setIfInBounds_toArray, List.set_cons_zero, List.set_cons_succ]
  refine takeH (i := 5) (d := some 20) (v := ?v56) rfl rfl (by kernel_rfl) (by kernel_rfl) (by kernel_rfl) (fun _ _ _ h => h) (Or.inl ⟨by rfl, ?h56⟩) hS ?_
  case h56 => intro W _; go_simp; try with_reducible rfl
  simp only [Act.put, List.setIfInBounds_toArray, List.set_cons_zero, List.set_cons_succ]
  refine takeH (i := 6) (d := some 21) (v := .string s) rfl rfl (by kernel_rfl) (by kernel_rfl) (by kernel_rfl) (fun _ _ _ h => h) (yields_C rfl (by rfl) (by kernel_rfl) _ rfl (j := 1) rfl rfl (fun W hW => hW.2.1)) hS ?_
  simp only [Act.put, List.setIfInBounds_toArray, List.set_cons_zero, List.set_cons_succ]
  refine takeH (i := 7) (d := some 22) (v := ?v57) rfl rfl (by kernel_rfl) (by kernel_rfl) (by kernel_rfl) (fun _ _ _ h => h) (Or.inl ⟨by rfl, ?h57⟩) hS ?_
  case h57 => intro W _; go_simp; try with_reducible rfl
  simp only [Act.put, List.setIfInBounds_toArray, List.set_cons_zero, List.set_cons_succ]
  refine takeH (i := 8) (d := some 23) (v := .string t) rfl rfl (by kernel_rfl) (by kernel_rfl) (by kernel_rfl) (fun _ _ _ h => h) (yields_C rfl (by rfl) (by kernel_rfl) _ rfl (j := 1) rfl rfl (fun W hW => hW.2.2)) hS ?_
  simp only [Act.put, List.setIfInBounds_toArray, List.set_cons_zero, List.set_cons_succ]
  refine takeH (i := 10) (d := some 25) (v := ?v58) rfl rfl (by kernel_rfl) (by kernel_rfl) (by kernel_rfl) (fun _ _ _ h => h) (Or.inl ⟨by rfl, ?h58⟩) hS ?_
  case h58 => intro W _; go_simp; try with_reducible rfl
  simp only [Act.put, List.setIfInBounds_toArray, List.set_cons_zero, List.set_cons_succ]
  refine takeH (i := 11) (d := some 26) (v := .int .i64 (T : Int)) rfl rfl (by kernel_rfl) (by kernel_rfl) (by kernel_rfl) (fun _ _ _ h => h) (yields_C rfl (by rfl) (by kernel_rfl) _ rfl (j := 2) rfl rfl (fun W hW => hW.2.1)) hS ?_
  simp only [Act.put, List.setIfInBounds_toArray, List.set_cons_zero, List.set_cons_succ]
  refine takeH (i := 12) (d := some 27) (v := ?v59) rfl rfl (by kernel_rfl) (by kernel_rfl) (by kernel_rfl) (fun _ _ _ h => h) (Or.inl ⟨by rfl, ?h59⟩) hS ?_
  case h59 => intro W _; go_simp; try with_reducible rfl
  simp only [Act.put, List.setIfInBounds_toArray, List.set_cons_zero, List.set_cons_succ]
  refine takeH (i := 13) (d := some 28) (v := .int .i64 (V : Int)) rfl rfl (by kernel_rfl) (by kernel_rfl) (by kernel_rfl) (fun _ _ _ h => h) (yields_C rfl (by rfl) (by kernel_rfl) _ rfl (j := 2) rfl rfl (fun W hW => hW.2.2)) hS ?_
  simp only [Act.put, List.setIfInBounds_toArray, List.set_cons_zero, List.set_cons_succ]
  refine takeH (i := 14) (d := some 29) (v := ?v60) rfl rfl (by kernel_rfl) (by kernel_rfl) (by kernel_rfl) (fun _ _ _ h => h) (Or.inl ⟨by rfl, ?h60⟩) hS ?_
  case h60 => intro W _; go_simp; try with_reducible rfl
  simp only [Act.put, List.setIfInBounds_toArray, List.set_cons_zero, List.set_cons_succ]
  refine wpAnyH_ready (rs := [9]) (by kernel_rfl) (by simp) ?_
  refine AllReadyH.cons rfl (fun Kc hKc => ?_) AllReadyH.nil
  go_simp
  refine (CT.out _).mono ?_
  rintro e W6 ⟨⟨u, rfl, hu⟩, hb⟩
  have HU : Hid _ := Lib.hid ((congrArg bts hu).trans (bts_digs _))
  clear hu
  replace b4 := b4.keep hb
  refine hKc.out _ _ ⟨below_step hS.1 hb, hS.2.1.keep hb, hS.2.2.keep hb⟩ (fun hS => ?_)
  clear hKc Kc
  refine wpAnyH_ready (rs := [15]) (by kernel_rfl) (by simp) ?_
  refine AllReadyH.cons rfl (fun Kc hKc => ?_) AllReadyH.nil
  go_simp
  refine (rmade_is _ u K (Nat.le_trans (digs_size (k := 120) HU.out HL.out (by decide)) (by decide)) (by omega) (digs_is HU.out) r (by rw [val_of HU.out]; exact HR.out) _).mono ?_
  rintro e W7 ⟨rfl, hb⟩
  replace b4 := b4.keep hb
  refine hKc.out _ _ ⟨below_step hS.1 hb, hS.2.1.keep hb, hS.2.2.keep hb⟩ (fun hS => ?_)
  clear hKc Kc
  refine takeH (i := 16) (d := some 31) (v := ?v61) rfl rfl (by kernel_rfl) (by kernel_rfl) (by kernel_rfl) (fun _ _ _ h => h) (Or.inl ⟨by rfl, ?h61⟩) hS ?_
  case h61 => intro W _; go_simp; try with_reducible rfl
  simp only [Act.put, List.setIfInBounds_toArray, List.set_cons_zero, List.set_cons_succ]
  refine takeH (i := 17) (d := some 32) (v := ?v62) rfl rfl (by kernel_rfl) (by kernel_rfl) (by kernel_rfl) (fun _ _ _ h => h) (Or.inl ⟨by rfl, ?h62⟩) hS ?_
  case h62 => intro W _; go_simp; try with_reducible rfl
  simp only [Act.put, List.setIfInBounds_toArray, List.set_cons_zero, List.set_cons_succ]
  refine wpAnyH_ready (rs := [18]) (by kernel_rfl) (by simp) ?_
  refine AllReadyH.cons rfl (fun Kc hKc => ?_) AllReadyH.nil
  refine st_of rfl (wp_storeA b4 _ _ rfl rfl rfl (by kernel_rfl) rfl rfl rfl (fun W8 b8 hg => ?_))
  refine hKc.out _ _ ⟨below_far hS.1 hS.1.size (by omega) hg, hS.2.1.far hg (by omega), hS.2.2.far hg (by omega)⟩ (fun hS => ?_)
  clear hKc Kc
  refine takeH (i := 19) (d := some 5) (v := ?v63) rfl rfl (by kernel_rfl) (by kernel_rfl) (by kernel_rfl) (fun _ _ _ h => h) (Or.inl ⟨by rfl, ?h63⟩) hS ?_
  case h63 => intro W _; go_simp; try with_reducible rfl
  simp only [Act.put, List.setIfInBounds_toArray, List.set_cons_zero, List.set_cons_succ]
  refine wpAnyH_done (by kernel_rfl) ?_ _
  go_wp2
  exact bodyPost_ret (res_cell_tmp rfl b8 (by kernel_rfl) rfl rfl) rfl ⟨rfl, hS.1⟩
theorem radd_is (n : Bool) (s : ByteArray) (S : Int) (m : Bool) (t : ByteArray) (U : Int) (hs : s.size ≤ 1000000) (ht : t.size ≤ 1000000) (r : Res) (hr : twoR Dc.addD n s S m t U = r) (w : World) : Calls Tryz.prog 29 #[.agg #[.bool n, .string s, .int .i64 S], .agg #[.bool m, .string t, .int .i64 U]] w fun e w' => e = .returned (.tuple #[.agg #[.bool r.n, .string r.s, .int .i64 r.S], .int .i64 r.k]) ∧ Below w.heap.size w w' := by
  cases h1 : okB n s S with
  | false => rw [two_no1 h1] at hr; subst hr; exact rAdd_no1 n s S m t U hs h1 w
  | true =>
    cases h2 : okB m t U with
    | false => rw [two_no2 h2] at hr; subst hr; exact rAdd_no2 n s S m t U hs ht h1 h2 w
    | true => rw [two_yes h1 h2] at hr; exact rAdd_yes n s S m t U h1 h2 r hr w
theorem rsub_is (n : Bool) (s : ByteArray) (S : Int) (m : Bool) (t : ByteArray) (U : Int) (hs : s.size ≤ 1000000) (ht : t.size ≤ 1000000) (r : Res) (hr : twoR Dc.subD n s S m t U = r) (w : World) : Calls Tryz.prog 30 #[.agg #[.bool n, .string s, .int .i64 S], .agg #[.bool m, .string t, .int .i64 U]] w fun e w' => e = .returned (.tuple #[.agg #[.bool r.n, .string r.s, .int .i64 r.S], .int .i64 r.k]) ∧ Below w.heap.size w w' := by
  cases h1 : okB n s S with
  | false => rw [two_no1 h1] at hr; subst hr; exact rSub_no1 n s S m t U hs h1 w
  | true =>
    cases h2 : okB m t U with
    | false => rw [two_no2 h2] at hr; subst hr; exact rSub_no2 n s S m t U hs ht h1 h2 w
    | true => rw [two_yes h1 h2] at hr; exact rSub_yes n s S m t U h1 h2 r hr w
theorem rmul_is (n : Bool) (s : ByteArray) (S : Int) (m : Bool) (t : ByteArray) (U : Int) (hs : s.size ≤ 1000000) (ht : t.size ≤ 1000000) (r : Res) (hr : twoR Dc.mulD n s S m t U = r) (w : World) : Calls Tryz.prog 31 #[.agg #[.bool n, .string s, .int .i64 S], .agg #[.bool m, .string t, .int .i64 U]] w fun e w' => e = .returned (.tuple #[.agg #[.bool r.n, .string r.s, .int .i64 r.S], .int .i64 r.k]) ∧ Below w.heap.size w w' := by
  cases h1 : okB n s S with
  | false => rw [two_no1 h1] at hr; subst hr; exact rMul_no1 n s S m t U hs h1 w
  | true =>
    cases h2 : okB m t U with
    | false => rw [two_no2 h2] at hr; subst hr; exact rMul_no2 n s S m t U hs ht h1 h2 w
    | true => rw [two_yes h1 h2] at hr; exact rMul_yes n s S m t U h1 h2 r hr w
end Go.Proofs.YthmmjihldkjhhaaGreatDoor
