/-
  What Text of the reference returns.
-/
import Derived.Test.YthmmjihldkjhhaaGreatDoorRadd
import Derived.Test.YthmmjihldkjhhaaGreatDoorRdtext
namespace Go.Proofs.YthmmjihldkjhhaaGreatDoor
open Go Go.RowKit

theorem ret_text {s t : ByteArray} {k : Int} (h : s = t) : Ending.returned (.tuple #[.string s, .int .i64 k]) = .returned (.tuple #[.string t, .int .i64 k]) := by rw [h]
/-- The text of digits, step by step. -/
theorem text_whole {n : Bool} {l : List Nat} {u : ByteArray} (hu : bts u = Dc.wide l 0) (x : ByteArray) (hx : bts x = if n then 45 :: bts u else bts u) : x = str (Dc.txt n l 0) := by
  rw [← str_bts x, hx, hu]
  unfold Dc.txt Dc.dotted
  rw [if_pos rfl]
theorem text_dotted {n : Bool} {l : List Nat} {S : Nat} (hS : S ≠ 0) {u : ByteArray} (hu : bts u = Dc.wide l S) (x : ByteArray) (hx : bts x = if n then 45 :: ((bts u).take (u.size - S) ++ 46 :: (bts u).drop (u.size - S)) else (bts u).take (u.size - S) ++ 46 :: (bts u).drop (u.size - S)) : x = str (Dc.txt n l S) := by
  rw [← str_bts x, hx, ← bts_length u, hu]
  unfold Dc.txt Dc.dotted
  rw [if_neg hS]
theorem bts_45 (x : ByteArray) : bts (⟨#[45]⟩ ++ x) = 45 :: bts x := by rw [str_add]; rfl
theorem bts_46 (x y : ByteArray) : bts (x ++ ⟨#[46]⟩ ++ y) = bts x ++ 46 :: bts y := by rw [str_add, str_add, List.append_assoc]; rfl
set_option maxRecDepth 100000 in
set_option maxHeartbeats 4000000 in
theorem rtext_no (n : Bool) (s : ByteArray) (S : Int) (hs : s.size ≤ 1000000) (hk : okB n s S = false) (w : World) : Calls Tryz.prog 12 #[.agg #[.bool n, .string s, .int .i64 S]] w fun e w' => e = .returned (.tuple #[.string ⟨#[]⟩, .int .i64 2]) ∧ Below w.heap.size w w' := by
  have K1 := Lib.hid (rcheck_r n s S hs 2 (ck_no hk))
  clear hk
  go_enter Tryz.func12, Tryz.ntmps12
  go_wp2_with (first
    | (refine wl_boxA rfl (.tmp 0) rfl rfl (fun W2 b2 hb2 => ?_); have hB := hb2; have l2 := b2.lt; clear hb2)
    | (refine wl_loadA (ty := 23) b2 rfl (by kernel_rfl) _ rfl rfl ?_)
    | (go_at_call 14; refine (K1.out _).mono ?_; rintro e W5 ⟨rfl, hb⟩; replace hB := below_step hB hb; replace b2 := b2.keep hb; clear hb))
  go_ret2
  exact ⟨rfl, hB⟩
set_option maxRecDepth 100000 in
set_option maxHeartbeats 4000000 in
theorem rtext_t0n (s : ByteArray) (hs : s.size ≤ 60) (hp : 1 ≤ s.size) (hk : okB true s 0 = true) (w : World) : Calls Tryz.prog 12 #[.agg #[.bool true, .string s, .int .i64 0]] w fun e w' => e = .returned (.tuple #[.string (str (Dc.txt true (bts s) 0)), .int .i64 0]) ∧ Below w.heap.size w w' := by
  have K1 := Lib.hid (rcheck_r true s 0 (by omega) 0 (ck_yes hk))
  have HCC : Hid (0 + 1 - s.size = 0) := Lib.hid (by omega)
  have dz : decide ((s.size : Int) ≤ 0) = false := decide_eq_false (by omega)
  have dz2 : decide (s.size = 0) = false := decide_eq_false (by omega)
  have dz3 : decide (s.size ≤ 0) = false := decide_eq_false (by omega)
  have dz4 : ¬ s.size = 0 := by omega
  clear hk
  obtain ⟨u, hu0⟩ : ∃ u, s = u := ⟨_, rfl⟩
  have HU := Lib.hid (show bts u = Dc.wide (bts s) 0 by rw [← hu0]; unfold Dc.wide; rw [bts_length, HCC.out]; rfl); have hul : u.size ≤ 121 := (by rw [← bts_length, HU.out, Dc.wide_length, bts_length]; omega); have HUL := Lib.hid (show u.size = max (0 + 1) s.size by rw [← bts_length, HU.out, Dc.wide_length, bts_length])
  subst hu0
  go_enter Tryz.func12, Tryz.ntmps12
  go_wp2_with (first
    | (refine wl_boxA rfl (.tmp 0) rfl rfl (fun W2 b2 hb2 => ?_); have hB := hb2; have l2 := b2.lt; clear hb2)
    | (refine wl_loadA (ty := 23) b2 rfl (by kernel_rfl) _ rfl rfl ?_)
    | (go_at_call 14; refine (K1.out _).mono ?_; rintro e W5 ⟨rfl, hb⟩; replace hB := below_step hB hb; replace b2 := b2.keep hb; clear hb)
    | (refine wl_loadC b2 rfl (by kernel_rfl) _ rfl (j := 0) rfl rfl ?_)
    | (refine wl_loadC b2 rfl (by kernel_rfl) _ rfl (j := 1) rfl rfl ?_)
    | (refine wl_loadC b2 rfl (by kernel_rfl) _ rfl (j := 2) rfl rfl ?_))
  go_ret2
  exact ⟨ret_text (text_whole HU.out _ (by rw [bts_45]; rfl)), hB⟩
set_option maxRecDepth 100000 in
set_option maxHeartbeats 4000000 in
theorem rtext_tSz (s : ByteArray) (S : Nat) (hs : s.size ≤ 60) (hp : 1 ≤ s.size) (hS60 : S ≤ 60) (hS : S ≠ 0) (hz : s.size ≤ S) (hk : okB true s (S : Int) = true) (w : World) : Calls Tryz.prog 12 #[.agg #[.bool true, .string s, .int .i64 (S : Int)]] w fun e w' => e = .returned (.tuple #[.string (str (Dc.txt true (bts s) S)), .int .i64 0]) ∧ Below w.heap.size w w' := by
  have K1 := Lib.hid (rcheck_r true s (S : Int) (by omega) 0 (ck_yes hk))
  obtain ⟨c, hc⟩ : ∃ c, S + 1 - s.size = c := ⟨_, rfl⟩
  have hcl : c ≤ 61 := by omega
  have hci : (S : Int) - (s.size : Int) + 1 = (c : Int) := by omega
  have CR := Lib.hid (rzeros_b (c : Int) c rfl (by omega))
  have dz : decide (s.size ≤ S) = true := decide_eq_true (by omega)
  have dS : decide (0 < S) = true := decide_eq_true (by omega)
  have HS := Lib.hid hS
  have HCC := Lib.hid hc
  clear hk hc hS hz
  go_enter Tryz.func12, Tryz.ntmps12
  go_wp2_with (first
    | (refine wl_boxA rfl (.tmp 0) rfl rfl (fun W2 b2 hb2 => ?_); have hB := hb2; have l2 := b2.lt; clear hb2)
    | (refine wl_loadA (ty := 23) b2 rfl (by kernel_rfl) _ rfl rfl ?_)
    | (go_at_call 14; refine (K1.out _).mono ?_; rintro e W5 ⟨rfl, hb⟩; replace hB := below_step hB hb; replace b2 := b2.keep hb; clear hb)
    | (refine wl_loadC b2 rfl (by kernel_rfl) _ rfl (j := 0) rfl rfl ?_)
    | (refine wl_loadC b2 rfl (by kernel_rfl) _ rfl (j := 1) rfl rfl ?_)
    | (refine wl_loadC b2 rfl (by kernel_rfl) _ rfl (j := 2) rfl rfl ?_)
    | (go_at_call 45; refine (CR.out _).mono ?_; rintro e W6 ⟨⟨z, rfl, hz1⟩, hb⟩; replace hB := below_step hB hb; replace b2 := b2.keep hb; have hzl : z.size ≤ 61 := (by rw [← bts_length, hz1, List.length_replicate]; omega); obtain ⟨u, hu⟩ : ∃ u, z ++ s = u := ⟨_, rfl⟩; have HU := Lib.hid (show bts u = Dc.wide (bts s) S by rw [← hu, str_add, hz1]; unfold Dc.wide; rw [bts_length, HCC.out]); have hul : u.size ≤ 121 := (by rw [← bts_length, HU.out, Dc.wide_length, bts_length]; omega); have HUL := Lib.hid (show u.size = max (S + 1) s.size by rw [← bts_length, HU.out, Dc.wide_length, bts_length]); obtain ⟨k, hk⟩ : ∃ k, u.size - S = k := ⟨_, rfl⟩; have hke : (u.size : Int) - (S : Int) = (k : Int) := (by have := HUL.out; omega); have hk1 : (k : Int) ≤ (u.size : Int) := (by omega); have hk0 : (0 : Int) ≤ (k : Int) := (by omega); have hkl : k ≤ 121 := (by omega); have HK := Lib.hid hk; obtain ⟨x, hx⟩ : ∃ x, u.extract 0 k = x := ⟨_, rfl⟩; obtain ⟨y, hy⟩ : ∃ y, u.extract k u.size = y := ⟨_, rfl⟩; have hbx := Lib.hid (show bts x = (bts u).take k by rw [← hx, bts_extract, List.drop_zero]); have hby := Lib.hid (show bts y = (bts u).drop k by rw [← hy, bts_from]); have hxl : x.size ≤ 121 := (by rw [← bts_length, hbx.out, List.length_take, bts_length]; omega); have hyl : y.size ≤ 121 := (by rw [← bts_length, hby.out, List.length_drop, bts_length]; omega); have wke : IntKind.i64.wrap ((u.size : Int) - (S : Int)) = (k : Int) := (by rw [IntKind.wrap_i64]; omega); clear hk; clear hz1 hb))
  have c22 := b2.at (j := 2) rfl
  go_quiet (fail)
  clear c22
  go_wp2_with (first
    | (refine wl_loadC (b2.drewN _) rfl (by kernel_rfl) _ rfl (j := 0) rfl rfl ?_)
    | (refine wl_loadC (b2.drewN _) rfl (by kernel_rfl) _ rfl (j := 1) rfl rfl ?_)
    | (refine wl_loadC (b2.drewN _) rfl (by kernel_rfl) _ rfl (j := 2) rfl rfl ?_))
  go_ret2
  exact ⟨ret_text (text_dotted HS.out HU.out _ (by rw [bts_45, bts_46, hbx.out, hby.out, HK.out]; rfl)), below_drewN hB _⟩
set_option maxRecDepth 100000 in
set_option maxHeartbeats 4000000 in
theorem rtext_tSn (s : ByteArray) (S : Nat) (hs : s.size ≤ 60) (hp : 1 ≤ s.size) (hS60 : S ≤ 60) (hS : S ≠ 0) (hz : S < s.size) (hk : okB true s (S : Int) = true) (w : World) : Calls Tryz.prog 12 #[.agg #[.bool true, .string s, .int .i64 (S : Int)]] w fun e w' => e = .returned (.tuple #[.string (str (Dc.txt true (bts s) S)), .int .i64 0]) ∧ Below w.heap.size w w' := by
  have K1 := Lib.hid (rcheck_r true s (S : Int) (by omega) 0 (ck_yes hk))
  obtain ⟨c, hc⟩ : ∃ c, S + 1 - s.size = c := ⟨_, rfl⟩
  have hcl : c ≤ 61 := by omega
  have dz : decide (s.size ≤ S) = false := decide_eq_false (by omega)
  have dS : decide (0 < S) = true := decide_eq_true (by omega)
  have HS := Lib.hid hS
  obtain rfl : c = 0 := by omega
  have HCC := Lib.hid hc
  clear hk hc hS hz
  obtain ⟨u, hu0⟩ : ∃ u, s = u := ⟨_, rfl⟩
  have HU := Lib.hid (show bts u = Dc.wide (bts s) S by rw [← hu0]; unfold Dc.wide; rw [bts_length, HCC.out]; rfl); have hul : u.size ≤ 121 := (by rw [← bts_length, HU.out, Dc.wide_length, bts_length]; omega); have HUL := Lib.hid (show u.size = max (S + 1) s.size by rw [← bts_length, HU.out, Dc.wide_length, bts_length]); obtain ⟨k, hk⟩ : ∃ k, u.size - S = k := ⟨_, rfl⟩; have hke : (u.size : Int) - (S : Int) = (k : Int) := (by have := HUL.out; omega); have hk1 : (k : Int) ≤ (u.size : Int) := (by omega); have hk0 : (0 : Int) ≤ (k : Int) := (by omega); have hkl : k ≤ 121 := (by omega); have HK := Lib.hid hk; obtain ⟨x, hx⟩ : ∃ x, u.extract 0 k = x := ⟨_, rfl⟩; obtain ⟨y, hy⟩ : ∃ y, u.extract k u.size = y := ⟨_, rfl⟩; have hbx := Lib.hid (show bts x = (bts u).take k by rw [← hx, bts_extract, List.drop_zero]); have hby := Lib.hid (show bts y = (bts u).drop k by rw [← hy, bts_from]); have hxl : x.size ≤ 121 := (by rw [← bts_length, hbx.out, List.length_take, bts_length]; omega); have hyl : y.size ≤ 121 := (by rw [← bts_length, hby.out, List.length_drop, bts_length]; omega); have wke : IntKind.i64.wrap ((u.size : Int) - (S : Int)) = (k : Int) := (by rw [IntKind.wrap_i64]; omega); clear hk
  subst hu0
  go_enter Tryz.func12, Tryz.ntmps12
  go_wp2_with (first
    | (refine wl_boxA rfl (.tmp 0) rfl rfl (fun W2 b2 hb2 => ?_); have hB := hb2; have l2 := b2.lt; clear hb2)
    | (refine wl_loadA (ty := 23) b2 rfl (by kernel_rfl) _ rfl rfl ?_)
    | (go_at_call 14; refine (K1.out _).mono ?_; rintro e W5 ⟨rfl, hb⟩; replace hB := below_step hB hb; replace b2 := b2.keep hb; clear hb)
    | (refine wl_loadC b2 rfl (by kernel_rfl) _ rfl (j := 0) rfl rfl ?_)
    | (refine wl_loadC b2 rfl (by kernel_rfl) _ rfl (j := 1) rfl rfl ?_)
    | (refine wl_loadC b2 rfl (by kernel_rfl) _ rfl (j := 2) rfl rfl ?_))
  have c22 := b2.at (j := 2) rfl
  go_quiet (fail)
  clear c22
  go_wp2_with (first
    | (refine wl_loadC (b2.drewN _) rfl (by kernel_rfl) _ rfl (j := 0) rfl rfl ?_)
    | (refine wl_loadC (b2.drewN _) rfl (by kernel_rfl) _ rfl (j := 1) rfl rfl ?_)
    | (refine wl_loadC (b2.drewN _) rfl (by kernel_rfl) _ rfl (j := 2) rfl rfl ?_))
  go_ret2
  exact ⟨ret_text (text_dotted HS.out HU.out _ (by rw [bts_45, bts_46, hbx.out, hby.out, HK.out]; rfl)), below_drewN hB _⟩
set_option maxRecDepth 100000 in
set_option maxHeartbeats 4000000 in
theorem rtext_f0n (s : ByteArray) (hs : s.size ≤ 60) (hp : 1 ≤ s.size) (hk : okB false s 0 = true) (w : World) : Calls Tryz.prog 12 #[.agg #[.bool false, .string s, .int .i64 0]] w fun e w' => e = .returned (.tuple #[.string (str (Dc.txt false (bts s) 0)), .int .i64 0]) ∧ Below w.heap.size w w' := by
  have K1 := Lib.hid (rcheck_r false s 0 (by omega) 0 (ck_yes hk))
  have HCC : Hid (0 + 1 - s.size = 0) := Lib.hid (by omega)
  have dz : decide ((s.size : Int) ≤ 0) = false := decide_eq_false (by omega)
  have dz2 : decide (s.size = 0) = false := decide_eq_false (by omega)
  have dz3 : decide (s.size ≤ 0) = false := decide_eq_false (by omega)
  have dz4 : ¬ s.size = 0 := by omega
  clear hk
  obtain ⟨u, hu0⟩ : ∃ u, s = u := ⟨_, rfl⟩
  have HU := Lib.hid (show bts u = Dc.wide (bts s) 0 by rw [← hu0]; unfold Dc.wide; rw [bts_length, HCC.out]; rfl); have hul : u.size ≤ 121 := (by rw [← bts_length, HU.out, Dc.wide_length, bts_length]; omega); have HUL := Lib.hid (show u.size = max (0 + 1) s.size by rw [← bts_length, HU.out, Dc.wide_length, bts_length])
  subst hu0
  go_enter Tryz.func12, Tryz.ntmps12
  go_wp2_with (first
    | (refine wl_boxA rfl (.tmp 0) rfl rfl (fun W2 b2 hb2 => ?_); have hB := hb2; have l2 := b2.lt; clear hb2)
    | (refine wl_loadA (ty := 23) b2 rfl (by kernel_rfl) _ rfl rfl ?_)
    | (go_at_call 14; refine (K1.out _).mono ?_; rintro e W5 ⟨rfl, hb⟩; replace hB := below_step hB hb; replace b2 := b2.keep hb; clear hb)
    | (refine wl_loadC b2 rfl (by kernel_rfl) _ rfl (j := 0) rfl rfl ?_)
    | (refine wl_loadC b2 rfl (by kernel_rfl) _ rfl (j := 1) rfl rfl ?_)
    | (refine wl_loadC b2 rfl (by kernel_rfl) _ rfl (j := 2) rfl rfl ?_))
  go_ret2
  exact ⟨ret_text (text_whole HU.out _ (by rfl)), hB⟩
set_option maxRecDepth 100000 in
set_option maxHeartbeats 4000000 in
theorem rtext_fSz (s : ByteArray) (S : Nat) (hs : s.size ≤ 60) (hp : 1 ≤ s.size) (hS60 : S ≤ 60) (hS : S ≠ 0) (hz : s.size ≤ S) (hk : okB false s (S : Int) = true) (w : World) : Calls Tryz.prog 12 #[.agg #[.bool false, .string s, .int .i64 (S : Int)]] w fun e w' => e = .returned (.tuple #[.string (str (Dc.txt false (bts s) S)), .int .i64 0]) ∧ Below w.heap.size w w' := by
  have K1 := Lib.hid (rcheck_r false s (S : Int) (by omega) 0 (ck_yes hk))
  obtain ⟨c, hc⟩ : ∃ c, S + 1 - s.size = c := ⟨_, rfl⟩
  have hcl : c ≤ 61 := by omega
  have hci : (S : Int) - (s.size : Int) + 1 = (c : Int) := by omega
  have CR := Lib.hid (rzeros_b (c : Int) c rfl (by omega))
  have dz : decide (s.size ≤ S) = true := decide_eq_true (by omega)
  have dS : decide (0 < S) = true := decide_eq_true (by omega)
  have HS := Lib.hid hS
  have HCC := Lib.hid hc
  clear hk hc hS hz
  go_enter Tryz.func12, Tryz.ntmps12
  go_wp2_with (first
    | (refine wl_boxA rfl (.tmp 0) rfl rfl (fun W2 b2 hb2 => ?_); have hB := hb2; have l2 := b2.lt; clear hb2)
    | (refine wl_loadA (ty := 23) b2 rfl (by kernel_rfl) _ rfl rfl ?_)
    | (go_at_call 14; refine (K1.out _).mono ?_; rintro e W5 ⟨rfl, hb⟩; replace hB := below_step hB hb; replace b2 := b2.keep hb; clear hb)
    | (refine wl_loadC b2 rfl (by kernel_rfl) _ rfl (j := 0) rfl rfl ?_)
    | (refine wl_loadC b2 rfl (by kernel_rfl) _ rfl (j := 1) rfl rfl ?_)
    | (refine wl_loadC b2 rfl (by kernel_rfl) _ rfl (j := 2) rfl rfl ?_)
    | (go_at_call 45; refine (CR.out _).mono ?_; rintro e W6 ⟨⟨z, rfl, hz1⟩, hb⟩; replace hB := below_step hB hb; replace b2 := b2.keep hb; have hzl : z.size ≤ 61 := (by rw [← bts_length, hz1, List.length_replicate]; omega); obtain ⟨u, hu⟩ : ∃ u, z ++ s = u := ⟨_, rfl⟩; have HU := Lib.hid (show bts u = Dc.wide (bts s) S by rw [← hu, str_add, hz1]; unfold Dc.wide; rw [bts_length, HCC.out]); have hul : u.size ≤ 121 := (by rw [← bts_length, HU.out, Dc.wide_length, bts_length]; omega); have HUL := Lib.hid (show u.size = max (S + 1) s.size by rw [← bts_length, HU.out, Dc.wide_length, bts_length]); obtain ⟨k, hk⟩ : ∃ k, u.size - S = k := ⟨_, rfl⟩; have hke : (u.size : Int) - (S : Int) = (k : Int) := (by have := HUL.out; omega); have hk1 : (k : Int) ≤ (u.size : Int) := (by omega); have hk0 : (0 : Int) ≤ (k : Int) := (by omega); have hkl : k ≤ 121 := (by omega); have HK := Lib.hid hk; obtain ⟨x, hx⟩ : ∃ x, u.extract 0 k = x := ⟨_, rfl⟩; obtain ⟨y, hy⟩ : ∃ y, u.extract k u.size = y := ⟨_, rfl⟩; have hbx := Lib.hid (show bts x = (bts u).take k by rw [← hx, bts_extract, List.drop_zero]); have hby := Lib.hid (show bts y = (bts u).drop k by rw [← hy, bts_from]); have hxl : x.size ≤ 121 := (by rw [← bts_length, hbx.out, List.length_take, bts_length]; omega); have hyl : y.size ≤ 121 := (by rw [← bts_length, hby.out, List.length_drop, bts_length]; omega); have wke : IntKind.i64.wrap ((u.size : Int) - (S : Int)) = (k : Int) := (by rw [IntKind.wrap_i64]; omega); clear hk; clear hz1 hb))
  have c22 := b2.at (j := 2) rfl
  go_quiet (fail)
  clear c22
  go_wp2_with (first
    | (refine wl_loadC (b2.drewN _) rfl (by kernel_rfl) _ rfl (j := 0) rfl rfl ?_)
    | (refine wl_loadC (b2.drewN _) rfl (by kernel_rfl) _ rfl (j := 1) rfl rfl ?_)
    | (refine wl_loadC (b2.drewN _) rfl (by kernel_rfl) _ rfl (j := 2) rfl rfl ?_))
  go_ret2
  exact ⟨ret_text (text_dotted HS.out HU.out _ (by rw [bts_46, hbx.out, hby.out, HK.out]; rfl)), below_drewN hB _⟩
set_option maxRecDepth 100000 in
set_option maxHeartbeats 4000000 in
theorem rtext_fSn (s : ByteArray) (S : Nat) (hs : s.size ≤ 60) (hp : 1 ≤ s.size) (hS60 : S ≤ 60) (hS : S ≠ 0) (hz : S < s.size) (hk : okB false s (S : Int) = true) (w : World) : Calls Tryz.prog 12 #[.agg #[.bool false, .string s, .int .i64 (S : Int)]] w fun e w' => e = .returned (.tuple #[.string (str (Dc.txt false (bts s) S)), .int .i64 0]) ∧ Below w.heap.size w w' := by
  have K1 := Lib.hid (rcheck_r false s (S : Int) (by omega) 0 (ck_yes hk))
  obtain ⟨c, hc⟩ : ∃ c, S + 1 - s.size = c := ⟨_, rfl⟩
  have hcl : c ≤ 61 := by omega
  have dz : decide (s.size ≤ S) = false := decide_eq_false (by omega)
  have dS : decide (0 < S) = true := decide_eq_true (by omega)
  have HS := Lib.hid hS
  obtain rfl : c = 0 := by omega
  have HCC := Lib.hid hc
  clear hk hc hS hz
  obtain ⟨u, hu0⟩ : ∃ u, s = u := ⟨_, rfl⟩
  have HU := Lib.hid (show bts u = Dc.wide (bts s) S by rw [← hu0]; unfold Dc.wide; rw [bts_length, HCC.out]; rfl); have hul : u.size ≤ 121 := (by rw [← bts_length, HU.out, Dc.wide_length, bts_length]; omega); have HUL := Lib.hid (show u.size = max (S + 1) s.size by rw [← bts_length, HU.out, Dc.wide_length, bts_length]); obtain ⟨k, hk⟩ : ∃ k, u.size - S = k := ⟨_, rfl⟩; have hke : (u.size : Int) - (S : Int) = (k : Int) := (by have := HUL.out; omega); have hk1 : (k : Int) ≤ (u.size : Int) := (by omega); have hk0 : (0 : Int) ≤ (k : Int) := (by omega); have hkl : k ≤ 121 := (by omega); have HK := Lib.hid hk; obtain ⟨x, hx⟩ : ∃ x, u.extract 0 k = x := ⟨_, rfl⟩; obtain ⟨y, hy⟩ : ∃ y, u.extract k u.size = y := ⟨_, rfl⟩; have hbx := Lib.hid (show bts x = (bts u).take k by rw [← hx, bts_extract, List.drop_zero]); have hby := Lib.hid (show bts y = (bts u).drop k by rw [← hy, bts_from]); have hxl : x.size ≤ 121 := (by rw [← bts_length, hbx.out, List.length_take, bts_length]; omega); have hyl : y.size ≤ 121 := (by rw [← bts_length, hby.out, List.length_drop, bts_length]; omega); have wke : IntKind.i64.wrap ((u.size : Int) - (S : Int)) = (k : Int) := (by rw [IntKind.wrap_i64]; omega); clear hk
  subst hu0
  go_enter Tryz.func12, Tryz.ntmps12
  go_wp2_with (first
    | (refine wl_boxA rfl (.tmp 0) rfl rfl (fun W2 b2 hb2 => ?_); have hB := hb2; have l2 := b2.lt; clear hb2)
    | (refine wl_loadA (ty := 23) b2 rfl (by kernel_rfl) _ rfl rfl ?_)
    | (go_at_call 14; refine (K1.out _).mono ?_; rintro e W5 ⟨rfl, hb⟩; replace hB := below_step hB hb; replace b2 := b2.keep hb; clear hb)
    | (refine wl_loadC b2 rfl (by kernel_rfl) _ rfl (j := 0) rfl rfl ?_)
    | (refine wl_loadC b2 rfl (by kernel_rfl) _ rfl (j := 1) rfl rfl ?_)
    | (refine wl_loadC b2 rfl (by kernel_rfl) _ rfl (j := 2) rfl rfl ?_))
  have c22 := b2.at (j := 2) rfl
  go_quiet (fail)
  clear c22
  go_wp2_with (first
    | (refine wl_loadC (b2.drewN _) rfl (by kernel_rfl) _ rfl (j := 0) rfl rfl ?_)
    | (refine wl_loadC (b2.drewN _) rfl (by kernel_rfl) _ rfl (j := 1) rfl rfl ?_)
    | (refine wl_loadC (b2.drewN _) rfl (by kernel_rfl) _ rfl (j := 2) rfl rfl ?_))
  go_ret2
  exact ⟨ret_text (text_dotted HS.out HU.out _ (by rw [bts_46, hbx.out, hby.out, HK.out]; rfl)), below_drewN hB _⟩
theorem rtext_is (n : Bool) (s : ByteArray) (S : Int) (hs : s.size ≤ 1000000) (t : ByteArray) (k : Int) (hr : textR n s S = (t, k)) (w : World) : Calls Tryz.prog 12 #[.agg #[.bool n, .string s, .int .i64 S]] w fun e w' => e = .returned (.tuple #[.string t, .int .i64 k]) ∧ Below w.heap.size w w' := by
  unfold textR at hr
  cases h1 : okB n s S with
  | false =>
    rw [if_neg (by rw [h1]; decide)] at hr; cases hr
    exact rtext_no n s S hs h1 w
  | true =>
    rw [if_pos h1] at hr; cases hr
    have k1 := okB_ok h1
    cases n with
    | true =>
      by_cases h0 : S = 0
      · subst h0
        exact rtext_t0n s k1.size k1.pos h1 w
      · obtain ⟨T, rfl⟩ : ∃ T : Nat, S = T := ⟨S.toNat, by have := k1.low; omega⟩
        have hT : T ≤ 60 := by have := k1.high; omega
        have hT0 : T ≠ 0 := by omega
        by_cases hz : s.size ≤ T
        · exact rtext_tSz s T k1.size k1.pos hT hT0 hz h1 w
        · exact rtext_tSn s T k1.size k1.pos hT hT0 (by omega) h1 w
    | false =>
      by_cases h0 : S = 0
      · subst h0
        exact rtext_f0n s k1.size k1.pos h1 w
      · obtain ⟨T, rfl⟩ : ∃ T : Nat, S = T := ⟨S.toNat, by have := k1.low; omega⟩
        have hT : T ≤ 60 := by have := k1.high; omega
        have hT0 : T ≠ 0 := by omega
        by_cases hz : s.size ≤ T
        · exact rtext_fSz s T k1.size k1.pos hT hT0 hz h1 w
        · exact rtext_fSn s T k1.size k1.pos hT hT0 (by omega) h1 w
end Go.Proofs.YthmmjihldkjhhaaGreatDoor
