/-
  What 'opposite', Neg, Add and Sub return.
-/
import Derived.Test.YthmmjihldkjhhaaGreatDoorPsum
import Derived.Test.YthmmjihldkjhhaaGreatDoorPchecked
namespace Go.Proofs.YthmmjihldkjhhaaGreatDoor
open Go Go.RowKit

set_option maxRecDepth 100000 in
set_option maxHeartbeats 4000000 in
theorem popp_neg (s : ByteArray) (S : Int) (w : World) : Calls Tryz.prog 61 #[.agg #[.bool true, .string s, .int .i64 S]] w fun e w' => e = .returned (.agg #[.bool false, .string s, .int .i64 S]) ∧ Below w.heap.size w w' := by
  go_enter Tryz.func61, Tryz.ntmps61
  go_wp2_with (first
    | (refine wl_boxA rfl (.tmp 0) rfl rfl (fun W1 b1 hb1 => ?_))
    | (refine wl_allocA rfl zero_dec rfl (fun W2 b2 hb2 => ?_); have l1 := b1.lt; have l11 := hb1.size; replace b1 := b1.keep hb2; have hB := below_step hb1 hb2; clear hb1 hb2)
    | (refine wl_loadC b1 rfl (by kernel_rfl) _ rfl (j := 0) rfl rfl ?_)
    | (refine wl_loadC b1 rfl (by kernel_rfl) _ rfl (j := 1) rfl rfl ?_)
    | (refine wl_storeC b1 rfl _ _ rfl (j := 0) rfl rfl rfl (by kernel_rfl) (by show 0 < 3; decide) rfl (fun W3 b3 hg => ?_); replace b2 := b2.far hg (by omega); have hB3 := below_far hB hB.size (by omega) hg; clear hg)
    | (refine wl_loadA (ty := 23) (cs := #[.bool false, .string s, .int .i64 S]) b3 rfl (by kernel_rfl) _ rfl rfl ?_)
    | (refine wl_storeA b2 rfl _ _ rfl rfl rfl (by kernel_rfl) rfl rfl rfl (fun W8 b8 hg => ?_); have hB8 := below_far hB3 hB3.size (by omega) hg; clear hg))
  exact bodyPost_ret (res_cell rfl b8 (by kernel_rfl) rfl) rfl ⟨rfl, hB8⟩
set_option maxRecDepth 100000 in
set_option maxHeartbeats 4000000 in
theorem popp_zero (s : ByteArray) (S : Int) (q : (s.toList == [48]) = true) (w : World) : Calls Tryz.prog 61 #[.agg #[.bool false, .string s, .int .i64 S]] w fun e w' => e = .returned (.agg #[.bool false, .string s, .int .i64 S]) ∧ Below w.heap.size w w' := by
  have q2 : (s.toList != [48]) = false := by rw [bne, q]; rfl
  go_enter Tryz.func61, Tryz.ntmps61
  go_wp2_with (first
    | (refine wl_boxA rfl (.tmp 0) rfl rfl (fun W1 b1 hb1 => ?_))
    | (refine wl_allocA rfl zero_dec rfl (fun W2 b2 hb2 => ?_); have l1 := b1.lt; have l11 := hb1.size; replace b1 := b1.keep hb2; have hB := below_step hb1 hb2; clear hb1 hb2)
    | (refine wl_loadC b1 rfl (by kernel_rfl) _ rfl (j := 0) rfl rfl ?_)
    | (refine wl_loadC b1 rfl (by kernel_rfl) _ rfl (j := 1) rfl rfl ?_)
    | (refine wl_storeC b1 rfl _ _ rfl (j := 0) rfl rfl rfl (by kernel_rfl) (by show 0 < 3; decide) rfl (fun W3 b3 hg => ?_); replace b2 := b2.far hg (by omega); have hB3 := below_far hB hB.size (by omega) hg; clear hg)
    | (refine wl_loadA (ty := 23) (cs := #[.bool false, .string s, .int .i64 S]) b3 rfl (by kernel_rfl) _ rfl rfl ?_)
    | (refine wl_storeA b2 rfl _ _ rfl rfl rfl (by kernel_rfl) rfl rfl rfl (fun W8 b8 hg => ?_); have hB8 := below_far hB3 hB3.size (by omega) hg; clear hg))
  exact bodyPost_ret (res_cell rfl b8 (by kernel_rfl) rfl) rfl ⟨rfl, hB8⟩
set_option maxRecDepth 100000 in
set_option maxHeartbeats 4000000 in
theorem popp_pos (s : ByteArray) (S : Int) (q : (s.toList == [48]) = false) (w : World) : Calls Tryz.prog 61 #[.agg #[.bool false, .string s, .int .i64 S]] w fun e w' => e = .returned (.agg #[.bool true, .string s, .int .i64 S]) ∧ Below w.heap.size w w' := by
  have q2 : (s.toList != [48]) = true := by rw [bne, q]; rfl
  go_enter Tryz.func61, Tryz.ntmps61
  go_wp2_with (first
    | (refine wl_boxA rfl (.tmp 0) rfl rfl (fun W1 b1 hb1 => ?_))
    | (refine wl_allocA rfl zero_dec rfl (fun W2 b2 hb2 => ?_); have l1 := b1.lt; have l11 := hb1.size; replace b1 := b1.keep hb2; have hB := below_step hb1 hb2; clear hb1 hb2)
    | (refine wl_loadC b1 rfl (by kernel_rfl) _ rfl (j := 0) rfl rfl ?_)
    | (refine wl_loadC b1 rfl (by kernel_rfl) _ rfl (j := 1) rfl rfl ?_)
    | (refine wl_storeC b1 rfl _ _ rfl (j := 0) rfl rfl rfl (by kernel_rfl) (by show 0 < 3; decide) rfl (fun W3 b3 hg => ?_); replace b2 := b2.far hg (by omega); have hB3 := below_far hB hB.size (by omega) hg; clear hg)
    | (refine wl_loadA (ty := 23) (cs := #[.bool true, .string s, .int .i64 S]) b3 rfl (by kernel_rfl) _ rfl rfl ?_)
    | (refine wl_storeA b2 rfl _ _ rfl rfl rfl (by kernel_rfl) rfl rfl rfl (fun W8 b8 hg => ?_); have hB8 := below_far hB3 hB3.size (by omega) hg; clear hg))
  exact bodyPost_ret (res_cell rfl b8 (by kernel_rfl) rfl) rfl ⟨rfl, hB8⟩
theorem popp_any (n : Bool) (s : ByteArray) (S : Int) (w : World) : Calls Tryz.prog 61 #[.agg #[.bool n, .string s, .int .i64 S]] w fun e w' => e = .returned (.agg #[.bool (oppN n s), .string s, .int .i64 S]) ∧ Below w.heap.size w w' := by
  unfold oppN
  cases n with
  | true => exact popp_neg s S w
  | false =>
    by_cases h : bts s = [48]
    · rw [decide_eq_false (fun g => g h)]
      exact popp_zero s S (by rw [word_beq]; exact decide_eq_true h) w
    · rw [decide_eq_true h]
      exact popp_pos s S (by rw [word_beq]; exact decide_eq_false h) w
set_option maxRecDepth 100000 in
set_option maxHeartbeats 4000000 in
theorem pNeg_no (n : Bool) (s : ByteArray) (S : Int) (hs : s.size ≤ 1000000) (hk : okB n s S = false) (w : World) : Calls Tryz.prog 32 #[.agg #[.bool n, .string s, .int .i64 S]] w fun e w' => e = argR.ret ∧ Below w.heap.size w w' := by
  have C : Hid _ := Lib.hid (pchecked1_no n s S hs hk)
  clear hk
  go_enter Tryz.func32, Tryz.ntmps32
  go_wp2_with (first
    | (refine wl_boxA rfl (.tmp 0) rfl rfl (fun W2 b2 hb2 => ?_))
    | (refine wl_allocA rfl zero_dec rfl (fun W4 b4 hb4 => ?_); have l2 := b2.lt; have l22 := hb2.size; replace b2 := b2.keep hb4; have hB := below_step hb2 hb4; clear hb2 hb4)
    | (refine wl_loadA (ty := 23) b2 rfl (by kernel_rfl) _ rfl rfl ?_)
    | (go_at_call 43; refine (C.out _ _ (by simp [World.cell?_alloc_new]) (by simp [World.cell?_alloc_new]) (by simp [World.cell?_alloc_new])).mono ?_; rintro e W5 ⟨rfl, hb⟩; replace hB := below_step (below_step hB (below_new _ _)) hb; replace b2 := (Blk.old b2 _).keep hb; replace b4 := (Blk.old b4 _).keep hb; clear hb)
    | (refine wl_storeA b4 rfl _ _ rfl rfl rfl (by kernel_rfl) rfl rfl rfl (fun W8 b8 hg => ?_); have hB8 := below_far hB hB.size (by omega) hg; clear hg))
  exact bodyPost_ret (res_cell_tmp rfl b8 (by kernel_rfl) rfl rfl) rfl ⟨rfl, hB8⟩
set_option maxRecDepth 100000 in
set_option maxHeartbeats 4000000 in
theorem pNeg_yes (n : Bool) (s : ByteArray) (S : Int) (hs : s.size ≤ 1000000) (hk : okB n s S = true) (w : World) : Calls Tryz.prog 32 #[.agg #[.bool n, .string s, .int .i64 S]] w fun e w' => e = .returned (.tuple #[.agg #[.bool (oppN n s), .string s, .int .i64 S], .int .i64 0]) ∧ Below w.heap.size w w' := by
  have C : Hid _ := Lib.hid (pchecked1_yes n s S hs hk)
  have CO : Hid _ := Lib.hid (popp_any n s S)
  clear hk
  obtain ⟨x, hx⟩ : ∃ x, oppN n s = x := ⟨_, rfl⟩
  rw [hx] at CO ⊢
  clear hx
  go_enter Tryz.func32, Tryz.ntmps32
  go_wp2_with (first
    | (refine wl_boxA rfl (.tmp 0) rfl rfl (fun W2 b2 hb2 => ?_))
    | (refine wl_allocA rfl zero_dec rfl (fun W4 b4 hb4 => ?_); have l2 := b2.lt; have l22 := hb2.size; replace b2 := b2.keep hb4; have hB := below_step hb2 hb4; clear hb2 hb4)
    | (refine wl_loadA (ty := 23) b2 rfl (by kernel_rfl) _ rfl rfl ?_)
    | (go_at_call 43; refine (C.out _ _ (by simp [World.cell?_alloc_new]) (by simp [World.cell?_alloc_new]) (by simp [World.cell?_alloc_new])).mono ?_; rintro e W5 ⟨rfl, hb⟩; replace hB := below_step (below_step hB (below_new _ _)) hb; replace b2 := (Blk.old b2 _).keep hb; replace b4 := (Blk.old b4 _).keep hb; clear hb)
    | (go_at_call 61; refine (CO.out _).mono ?_; rintro e W6 ⟨rfl, hb⟩; replace hB := below_step hB hb; replace b4 := b4.keep hb; clear hb)
    | (refine wl_storeA b4 rfl _ _ rfl rfl rfl (by kernel_rfl) rfl rfl rfl (fun W8 b8 hg => ?_); have hB8 := below_far hB hB.size (by omega) hg; clear hg))
  exact bodyPost_ret (res_cell_tmp rfl b8 (by kernel_rfl) rfl rfl) rfl ⟨rfl, hB8⟩
theorem pneg_is (n : Bool) (s : ByteArray) (S : Int) (hs : s.size ≤ 1000000) (r : Res) (hr : negR n s S = r) (w : World) : Calls Tryz.prog 32 #[.agg #[.bool n, .string s, .int .i64 S]] w fun e w' => e = .returned (.tuple #[.agg #[.bool r.n, .string r.s, .int .i64 r.S], .int .i64 r.k]) ∧ Below w.heap.size w w' := by
  subst hr
  cases hk : okB n s S with
  | false => rw [show negR n s S = argR from if_neg (by rw [hk]; decide)]; exact pNeg_no n s S hs hk w
  | true =>
    have h := okB_ok hk
    rw [show negR n s S = ⟨oppN n s, s, S, 0⟩ by rw [negR, if_pos hk, opp_raw h, raw_res h]]
    exact pNeg_yes n s S hs hk w
set_option maxRecDepth 100000 in
set_option maxHeartbeats 4000000 in
theorem pAdd_no1 (n : Bool) (s : ByteArray) (S : Int) (m : Bool) (t : ByteArray) (U : Int) (hs : s.size ≤ 1000000) (hk : okB n s S = false) (w : World) : Calls Tryz.prog 23 #[.agg #[.bool n, .string s, .int .i64 S], .agg #[.bool m, .string t, .int .i64 U]] w fun e w' => e = argR.ret ∧ Below w.heap.size w w' := by
  have C : Hid _ := Lib.hid (pchecked2_no n s S hs m t U hk)
  clear hk
  go_enter Tryz.func23, Tryz.ntmps23
  go_wp2_with (first
    | (refine wl_boxA rfl (.tmp 0) rfl rfl (fun W2 b2 hb2 => ?_))
    | (refine wl_boxA rfl (.tmp 1) rfl rfl (fun W3 b3 hb3 => ?_); have l2 := b2.lt; have l22 := hb2.size; replace b2 := b2.keep hb3; have l3 := b3.lt)
    | (refine wl_allocA rfl zero_dec rfl (fun W4 b4 hb4 => ?_); replace b2 := b2.keep hb4; replace b3 := b3.keep hb4; have hB := below_step (below_step hb2 hb3) hb4; clear hb2 hb3 hb4)
    | (refine wl_loadA (ty := 23) b2 rfl (by kernel_rfl) _ rfl rfl ?_)
    | (refine wl_loadA (ty := 23) b3 rfl (by kernel_rfl) _ rfl rfl ?_)
    | (go_at_call 43; refine (C.out _ _ (by simp [World.cell?_alloc_new]) (by simp [World.cell?_alloc_new]) (by simp [World.cell?_alloc_new]) (by simp [World.cell?_alloc_new]) (by simp [World.cell?_alloc_new]) (by simp [World.cell?_alloc_new])).mono ?_; rintro e W5 ⟨rfl, hb⟩; replace hB := below_step (below_step hB (below_new _ _)) hb; replace b2 := (Blk.old b2 _).keep hb; replace b3 := (Blk.old b3 _).keep hb; replace b4 := (Blk.old b4 _).keep hb; clear hb)
    | (refine wl_storeA b4 rfl _ _ rfl rfl rfl (by kernel_rfl) rfl rfl rfl (fun W8 b8 hg => ?_); have hB8 := below_far hB hB.size (by omega) hg; clear hg))
  exact bodyPost_ret (res_cell_tmp rfl b8 (by kernel_rfl) rfl rfl) rfl ⟨rfl, hB8⟩
set_option maxRecDepth 100000 in
set_option maxHeartbeats 4000000 in
theorem pAdd_no2 (n : Bool) (s : ByteArray) (S : Int) (m : Bool) (t : ByteArray) (U : Int) (hs : s.size ≤ 1000000) (ht : t.size ≤ 1000000) (hk1 : okB n s S = true) (hk : okB m t U = false) (w : World) : Calls Tryz.prog 23 #[.agg #[.bool n, .string s, .int .i64 S], .agg #[.bool m, .string t, .int .i64 U]] w fun e w' => e = argR.ret ∧ Below w.heap.size w w' := by
  have C : Hid _ := Lib.hid (pchecked2_yn n s S hs m t U ht hk1 hk)
  clear hk1 hk
  go_enter Tryz.func23, Tryz.ntmps23
  go_wp2_with (first
    | (refine wl_boxA rfl (.tmp 0) rfl rfl (fun W2 b2 hb2 => ?_))
    | (refine wl_boxA rfl (.tmp 1) rfl rfl (fun W3 b3 hb3 => ?_); have l2 := b2.lt; have l22 := hb2.size; replace b2 := b2.keep hb3; have l3 := b3.lt)
    | (refine wl_allocA rfl zero_dec rfl (fun W4 b4 hb4 => ?_); replace b2 := b2.keep hb4; replace b3 := b3.keep hb4; have hB := below_step (below_step hb2 hb3) hb4; clear hb2 hb3 hb4)
    | (refine wl_loadA (ty := 23) b2 rfl (by kernel_rfl) _ rfl rfl ?_)
    | (refine wl_loadA (ty := 23) b3 rfl (by kernel_rfl) _ rfl rfl ?_)
    | (go_at_call 43; refine (C.out _ _ (by simp [World.cell?_alloc_new]) (by simp [World.cell?_alloc_new]) (by simp [World.cell?_alloc_new]) (by simp [World.cell?_alloc_new]) (by simp [World.cell?_alloc_new]) (by simp [World.cell?_alloc_new])).mono ?_; rintro e W5 ⟨rfl, hb⟩; replace hB := below_step (below_step hB (below_new _ _)) hb; replace b2 := (Blk.old b2 _).keep hb; replace b3 := (Blk.old b3 _).keep hb; replace b4 := (Blk.old b4 _).keep hb; clear hb)
    | (refine wl_storeA b4 rfl _ _ rfl rfl rfl (by kernel_rfl) rfl rfl rfl (fun W8 b8 hg => ?_); have hB8 := below_far hB hB.size (by omega) hg; clear hg))
  exact bodyPost_ret (res_cell_tmp rfl b8 (by kernel_rfl) rfl rfl) rfl ⟨rfl, hB8⟩
set_option maxRecDepth 100000 in
set_option maxHeartbeats 4000000 in
theorem pSub_no1 (n : Bool) (s : ByteArray) (S : Int) (m : Bool) (t : ByteArray) (U : Int) (hs : s.size ≤ 1000000) (hk : okB n s S = false) (w : World) : Calls Tryz.prog 25 #[.agg #[.bool n, .string s, .int .i64 S], .agg #[.bool m, .string t, .int .i64 U]] w fun e w' => e = argR.ret ∧ Below w.heap.size w w' := by
  have C : Hid _ := Lib.hid (pchecked2_no n s S hs m t U hk)
  clear hk
  go_enter Tryz.func25, Tryz.ntmps25
  go_wp2_with (first
    | (refine wl_boxA rfl (.tmp 0) rfl rfl (fun W2 b2 hb2 => ?_))
    | (refine wl_boxA rfl (.tmp 1) rfl rfl (fun W3 b3 hb3 => ?_); have l2 := b2.lt; have l22 := hb2.size; replace b2 := b2.keep hb3; have l3 := b3.lt)
    | (refine wl_allocA rfl zero_dec rfl (fun W4 b4 hb4 => ?_); replace b2 := b2.keep hb4; replace b3 := b3.keep hb4; have hB := below_step (below_step hb2 hb3) hb4; clear hb2 hb3 hb4)
    | (refine wl_loadA (ty := 23) b2 rfl (by kernel_rfl) _ rfl rfl ?_)
    | (refine wl_loadA (ty := 23) b3 rfl (by kernel_rfl) _ rfl rfl ?_)
    | (go_at_call 43; refine (C.out _ _ (by simp [World.cell?_alloc_new]) (by simp [World.cell?_alloc_new]) (by simp [World.cell?_alloc_new]) (by simp [World.cell?_alloc_new]) (by simp [World.cell?_alloc_new]) (by simp [World.cell?_alloc_new])).mono ?_; rintro e W5 ⟨rfl, hb⟩; replace hB := below_step (below_step hB (below_new _ _)) hb; replace b2 := (Blk.old b2 _).keep hb; replace b3 := (Blk.old b3 _).keep hb; replace b4 := (Blk.old b4 _).keep hb; clear hb)
    | (refine wl_storeA b4 rfl _ _ rfl rfl rfl (by kernel_rfl) rfl rfl rfl (fun W8 b8 hg => ?_); have hB8 := below_far hB hB.size (by omega) hg; clear hg))
  exact bodyPost_ret (res_cell_tmp rfl b8 (by kernel_rfl) rfl rfl) rfl ⟨rfl, hB8⟩
set_option maxRecDepth 100000 in
set_option maxHeartbeats 4000000 in
theorem pSub_no2 (n : Bool) (s : ByteArray) (S : Int) (m : Bool) (t : ByteArray) (U : Int) (hs : s.size ≤ 1000000) (ht : t.size ≤ 1000000) (hk1 : okB n s S = true) (hk : okB m t U = false) (w : World) : Calls Tryz.prog 25 #[.agg #[.bool n, .string s, .int .i64 S], .agg #[.bool m, .string t, .int .i64 U]] w fun e w' => e = argR.ret ∧ Below w.heap.size w w' := by
  have C : Hid _ := Lib.hid (pchecked2_yn n s S hs m t U ht hk1 hk)
  clear hk1 hk
  go_enter Tryz.func25, Tryz.ntmps25
  go_wp2_with (first
    | (refine wl_boxA rfl (.tmp 0) rfl rfl (fun W2 b2 hb2 => ?_))
    | (refine wl_boxA rfl (.tmp 1) rfl rfl (fun W3 b3 hb3 => ?_); have l2 := b2.lt; have l22 := hb2.size; replace b2 := b2.keep hb3; have l3 := b3.lt)
    | (refine wl_allocA rfl zero_dec rfl (fun W4 b4 hb4 => ?_); replace b2 := b2.keep hb4; replace b3 := b3.keep hb4; have hB := below_step (below_step hb2 hb3) hb4; clear hb2 hb3 hb4)
    | (refine wl_loadA (ty := 23) b2 rfl (by kernel_rfl) _ rfl rfl ?_)
    | (refine wl_loadA (ty := 23) b3 rfl (by kernel_rfl) _ rfl rfl ?_)
    | (go_at_call 43; refine (C.out _ _ (by simp [World.cell?_alloc_new]) (by simp [World.cell?_alloc_new]) (by simp [World.cell?_alloc_new]) (by simp [World.cell?_alloc_new]) (by simp [World.cell?_alloc_new]) (by simp [World.cell?_alloc_new])).mono ?_; rintro e W5 ⟨rfl, hb⟩; replace hB := below_step (below_step hB (below_new _ _)) hb; replace b2 := (Blk.old b2 _).keep hb; replace b3 := (Blk.old b3 _).keep hb; replace b4 := (Blk.old b4 _).keep hb; clear hb)
    | (refine wl_storeA b4 rfl _ _ rfl rfl rfl (by kernel_rfl) rfl rfl rfl (fun W8 b8 hg => ?_); have hB8 := below_far hB hB.size (by omega) hg; clear hg))
  exact bodyPost_ret (res_cell_tmp rfl b8 (by kernel_rfl) rfl rfl) rfl ⟨rfl, hB8⟩
set_option maxRecDepth 100000 in
set_option maxHeartbeats 4000000 in
theorem pAdd_yes (n : Bool) (s : ByteArray) (S : Int) (m : Bool) (t : ByteArray) (U : Int) (hk1 : okB n s S = true) (hk2 : okB m t U = true) (r : Res) (hr : resOf (Dc.addD (rawD n s S) (rawD m t U)) = r) (w : World) (hP : Pow w) : Calls Tryz.prog 23 #[.agg #[.bool n, .string s, .int .i64 S], .agg #[.bool m, .string t, .int .i64 U]] w fun e w' => e = .returned (.tuple #[.agg #[.bool r.n, .string r.s, .int .i64 r.S], .int .i64 r.k]) ∧ Below w.heap.size w w' := by
  have h1 := okB_ok hk1
  have h2 := okB_ok hk2
  obtain ⟨T, rfl⟩ : ∃ T : Nat, S = T := ⟨S.toNat, by have := h1.low; omega⟩
  obtain ⟨V, rfl⟩ : ∃ V : Nat, U = V := ⟨U.toNat, by have := h2.low; omega⟩
  have hT : T ≤ 60 := by have := h1.high; omega
  have hV : V ≤ 60 := by have := h2.high; omega
  have C : Hid _ := Lib.hid (pchecked2_yes n s (T : Int) (by have := h1.size; omega) m t (V : Int) (by have := h2.size; omega) hk1 hk2)
  have CS : Hid _ := Lib.hid (psum_any n m s t T V _ rfl h1.size h2.size hT hV h1.dig.all h2.dig.all r (by rw [← hr]; rfl))
  have HP : Hid _ := Lib.hid hP
  clear h1 h2 hk1 hk2 hr hP
  go_enter Tryz.func23, Tryz.ntmps23
  go_wp2_with (first
    | (refine wl_boxA rfl (.tmp 0) rfl rfl (fun W2 b2 hb2 => ?_))
    | (refine wl_boxA rfl (.tmp 1) rfl rfl (fun W3 b3 hb3 => ?_); have l2 := b2.lt; have l22 := hb2.size; replace b2 := b2.keep hb3; have l3 := b3.lt)
    | (refine wl_allocA rfl zero_dec rfl (fun W4 b4 hb4 => ?_); replace b2 := b2.keep hb4; replace b3 := b3.keep hb4; have hB := below_step (below_step hb2 hb3) hb4; clear hb2 hb3 hb4)
    | (refine wl_loadA (ty := 23) b2 rfl (by kernel_rfl) _ rfl rfl ?_)
    | (refine wl_loadA (ty := 23) b3 rfl (by kernel_rfl) _ rfl rfl ?_)
    | (go_at_call 43; refine (C.out _ _ (by simp [World.cell?_alloc_new]) (by simp [World.cell?_alloc_new]) (by simp [World.cell?_alloc_new]) (by simp [World.cell?_alloc_new]) (by simp [World.cell?_alloc_new]) (by simp [World.cell?_alloc_new])).mono ?_; rintro e W5 ⟨rfl, hb⟩; replace hB := below_step (below_step hB (below_new _ _)) hb; replace b2 := (Blk.old b2 _).keep hb; replace b3 := (Blk.old b3 _).keep hb; replace b4 := (Blk.old b4 _).keep hb; clear hb)
    | (go_at_call 59; refine (CS.out _ (HP.out.keep hB)).mono ?_; rintro e W6 ⟨rfl, hb⟩; replace hB := below_step hB hb; replace b4 := b4.keep hb; clear hb)
    | (refine wl_storeA b4 rfl _ _ rfl rfl rfl (by kernel_rfl) rfl rfl rfl (fun W8 b8 hg => ?_); have hB8 := below_far hB hB.size (by omega) hg; clear hg))
  exact bodyPost_ret (res_cell_tmp rfl b8 (by kernel_rfl) rfl rfl) rfl ⟨rfl, hB8⟩
set_option maxRecDepth 100000 in
set_option maxHeartbeats 4000000 in
theorem pSub_yes (n : Bool) (s : ByteArray) (S : Int) (m : Bool) (t : ByteArray) (U : Int) (hk1 : okB n s S = true) (hk2 : okB m t U = true) (r : Res) (hr : resOf (Dc.subD (rawD n s S) (rawD m t U)) = r) (w : World) (hP : Pow w) : Calls Tryz.prog 25 #[.agg #[.bool n, .string s, .int .i64 S], .agg #[.bool m, .string t, .int .i64 U]] w fun e w' => e = .returned (.tuple #[.agg #[.bool r.n, .string r.s, .int .i64 r.S], .int .i64 r.k]) ∧ Below w.heap.size w w' := by
  have h1 := okB_ok hk1
  have h2 := okB_ok hk2
  obtain ⟨T, rfl⟩ : ∃ T : Nat, S = T := ⟨S.toNat, by have := h1.low; omega⟩
  obtain ⟨V, rfl⟩ : ∃ V : Nat, U = V := ⟨U.toNat, by have := h2.low; omega⟩
  have hT : T ≤ 60 := by have := h1.high; omega
  have hV : V ≤ 60 := by have := h2.high; omega
  have C : Hid _ := Lib.hid (pchecked2_yes n s (T : Int) (by have := h1.size; omega) m t (V : Int) (by have := h2.size; omega) hk1 hk2)
  have CS : Hid _ := Lib.hid (psum_any n (oppN m t) s t T V _ rfl h1.size h2.size hT hV h1.dig.all h2.dig.all r (by rw [← hr, Dc.subD, opp_raw h2]; rfl))
  have CO : Hid _ := Lib.hid (popp_any m t (V : Int))
  have HP : Hid _ := Lib.hid hP
  obtain ⟨x, hx⟩ : ∃ x, oppN m t = x := ⟨_, rfl⟩
  rw [hx] at CO CS
  clear h1 h2 hk1 hk2 hr hP hx
  go_enter Tryz.func25, Tryz.ntmps25
  go_wp2_with (first
    | (refine wl_boxA rfl (.tmp 0) rfl rfl (fun W2 b2 hb2 => ?_))
    | (refine wl_boxA rfl (.tmp 1) rfl rfl (fun W3 b3 hb3 => ?_); have l2 := b2.lt; have l22 := hb2.size; replace b2 := b2.keep hb3; have l3 := b3.lt)
    | (refine wl_allocA rfl zero_dec rfl (fun W4 b4 hb4 => ?_); replace b2 := b2.keep hb4; replace b3 := b3.keep hb4; have hB := below_step (below_step hb2 hb3) hb4; clear hb2 hb3 hb4)
    | (refine wl_loadA (ty := 23) b2 rfl (by kernel_rfl) _ rfl rfl ?_)
    | (refine wl_loadA (ty := 23) b3 rfl (by kernel_rfl) _ rfl rfl ?_)
    | (go_at_call 43; refine (C.out _ _ (by simp [World.cell?_alloc_new]) (by simp [World.cell?_alloc_new]) (by simp [World.cell?_alloc_new]) (by simp [World.cell?_alloc_new]) (by simp [World.cell?_alloc_new]) (by simp [World.cell?_alloc_new])).mono ?_; rintro e W5 ⟨rfl, hb⟩; replace hB := below_step (below_step hB (below_new _ _)) hb; replace b2 := (Blk.old b2 _).keep hb; replace b3 := (Blk.old b3 _).keep hb; replace b4 := (Blk.old b4 _).keep hb; clear hb))
  refine wp_region_held_drew (S := fun W : World => Below w.heap.size w W ∧ Blk W w.heap.size 23 #[.bool n, .string s, .int .i64 (T : Int)] ∧ Blk W W2.heap.size 23 #[.bool m, .string t, .int .i64 (V : Int)]) (by kernel_rfl) ⟨below_step hB (below_drew _), b2.drew, b3.drew⟩ (fun hS => ?_)
  replace b4 := b4.drew
  refine takeH (i := 0) (d := some 12) (v := _) rfl rfl (by kernel_rfl) (by kernel_rfl) (by kernel_rfl) (fun _ _ _ h => h) (yields_A rfl (by rfl) (by kernel_rfl) _ rfl rfl (fun W hW => hW.2.1)) hS ?_
  simp only [Act.put, List.setIfInBounds_toArray, List.set_cons_zero, List.set_cons_succ]
  refine takeH (i := 1) (d := some 13) (v := _) rfl rfl (by kernel_rfl) (by kernel_rfl) (by kernel_rfl) (fun _ _ _ h => h) (yields_A rfl (by rfl) (by kernel_rfl) _ rfl rfl (fun W hW => hW.2.2)) hS ?_
  simp only [Act.put, List.setIfInBounds_toArray, List.set_cons_zero, List.set_cons_succ]
  refine wpAnyH_ready (rs := [2]) (by kernel_rfl) (by simp) ?_
  refine AllReadyH.cons rfl (fun Kc hKc => ?_) AllReadyH.nil
  go_simp
  refine (CO.out _).mono ?_
  rintro e W6 ⟨rfl, hb⟩
  replace b4 := b4.keep hb
  refine hKc.out _ _ ⟨below_step hS.1 hb, hS.2.1.keep hb, hS.2.2.keep hb⟩ (fun hS => ?_)
  clear hKc Kc
  refine wpAnyH_ready (rs := [3]) (by kernel_rfl) (by simp) ?_
  refine AllReadyH.cons rfl (fun Kc hKc => ?_) AllReadyH.nil
  go_simp
  refine (CS.out _ (HP.out.keep hS.1)).mono ?_
  rintro e W7 ⟨rfl, hb⟩
  replace b4 := b4.keep hb
  refine hKc.out _ _ ⟨below_step hS.1 hb, hS.2.1.keep hb, hS.2.2.keep hb⟩ (fun hS => ?_)
  clear hKc Kc
  refine takeH (i := 4) (d := some 16) (v := ?v1) rfl rfl (by kernel_rfl) (by kernel_rfl) (by kernel_rfl) (fun _ _ _ h => h) (Or.inl ⟨by rfl, ?h1⟩) hS ?_
  case h1 => intro W _; go_simp; try with_reducible rfl
  simp only [Act.put, List.setIfInBounds_toArray, List.set_cons_zero, List.set_cons_succ]
  refine takeH (i := 5) (d := some 17) (v := ?v2) rfl rfl (by kernel_rfl) (by kernel_rfl) (by kernel_rfl) (fun _ _ _ h => h) (Or.inl ⟨by rfl, ?h2⟩) hS ?_
  case h2 => intro W _; go_simp; try with_reducible rfl
  simp only [Act.put, List.setIfInBounds_toArray, List.set_cons_zero, List.set_cons_succ]
  refine wpAnyH_ready (rs := [6]) (by kernel_rfl) (by simp) ?_
  refine AllReadyH.cons rfl (fun Kc hKc => ?_) AllReadyH.nil
  refine st_of rfl (wp_storeA b4 _ _ rfl rfl rfl (by kernel_rfl) rfl rfl rfl (fun W8 b8 hg => ?_))
  refine hKc.out _ _ ⟨below_far hS.1 hS.1.size (by omega) hg, hS.2.1.far hg (by omega), hS.2.2.far hg (by omega)⟩ (fun hS => ?_)
  clear hKc Kc
  refine takeH (i := 7) (d := some 5) (v := ?v3) rfl rfl (by kernel_rfl) (by kernel_rfl) (by kernel_rfl) (fun _ _ _ h => h) (Or.inl ⟨by rfl, ?h3⟩) hS ?_
  case h3 => intro W _; go_simp; try with_reducible rfl
  simp only [Act.put, List.setIfInBounds_toArray, List.set_cons_zero, List.set_cons_succ]
  refine wpAnyH_done (by kernel_rfl) ?_ _
  go_wp2
  exact bodyPost_ret (res_cell_tmp rfl b8 (by kernel_rfl) rfl rfl) rfl ⟨rfl, hS.1⟩
theorem padd_is (n : Bool) (s : ByteArray) (S : Int) (m : Bool) (t : ByteArray) (U : Int) (hs : s.size ≤ 1000000) (ht : t.size ≤ 1000000) (r : Res) (hr : twoR Dc.addD n s S m t U = r) (w : World) (hP : Pow w) : Calls Tryz.prog 23 #[.agg #[.bool n, .string s, .int .i64 S], .agg #[.bool m, .string t, .int .i64 U]] w fun e w' => e = .returned (.tuple #[.agg #[.bool r.n, .string r.s, .int .i64 r.S], .int .i64 r.k]) ∧ Below w.heap.size w w' := by
  cases h1 : okB n s S with
  | false => rw [two_no1 h1] at hr; subst hr; exact pAdd_no1 n s S m t U hs h1 w
  | true =>
    cases h2 : okB m t U with
    | false => rw [two_no2 h2] at hr; subst hr; exact pAdd_no2 n s S m t U hs ht h1 h2 w
    | true => rw [two_yes h1 h2] at hr; exact pAdd_yes n s S m t U h1 h2 r hr w hP
theorem psub_is (n : Bool) (s : ByteArray) (S : Int) (m : Bool) (t : ByteArray) (U : Int) (hs : s.size ≤ 1000000) (ht : t.size ≤ 1000000) (r : Res) (hr : twoR Dc.subD n s S m t U = r) (w : World) (hP : Pow w) : Calls Tryz.prog 25 #[.agg #[.bool n, .string s, .int .i64 S], .agg #[.bool m, .string t, .int .i64 U]] w fun e w' => e = .returned (.tuple #[.agg #[.bool r.n, .string r.s, .int .i64 r.S], .int .i64 r.k]) ∧ Below w.heap.size w w' := by
  cases h1 : okB n s S with
  | false => rw [two_no1 h1] at hr; subst hr; exact pSub_no1 n s S m t U hs h1 w
  | true =>
    cases h2 : okB m t U with
    | false => rw [two_no2 h2] at hr; subst hr; exact pSub_no2 n s S m t U hs ht h1 h2 w
    | true => rw [two_yes h1 h2] at hr; exact pSub_yes n s S m t U h1 h2 r hr w hP
end Go.Proofs.YthmmjihldkjhhaaGreatDoor
