/-
  What Digits and Div return.
-/
import Derived.Test.YthmmjihldkjhhaaGreatDoorPcmpd
namespace Go.Proofs.YthmmjihldkjhhaaGreatDoor
open Go Go.RowKit

set_option maxRecDepth 100000 in
set_option maxHeartbeats 4000000 in
theorem pDigits_no (n : Bool) (s : ByteArray) (S : Int) (hs : s.size ≤ 1000000) (hk : okB n s S = false) (w : World) : Calls Tryz.prog 21 #[.agg #[.bool n, .string s, .int .i64 S]] w fun e w' => e = .returned (.tuple #[.int .i64 0, .int .i64 0, .int .i64 2]) ∧ Below w.heap.size w w' := by
  have C : Hid _ := Lib.hid (pchecked1_no n s S hs hk)
  clear hk
  go_enter Tryz.func21, Tryz.ntmps21
  go_wp2_with (first
    | (refine wl_boxA rfl (.tmp 0) rfl rfl (fun W2 b2 hb2 => ?_); have hB := hb2; have l2 := b2.lt; clear hb2)
    | (refine wl_loadA (ty := 23) b2 rfl (by kernel_rfl) _ rfl rfl ?_)
    | (go_at_call 43; refine (C.out _ _ (by simp [World.cell?_alloc_new]) (by simp [World.cell?_alloc_new]) (by simp [World.cell?_alloc_new])).mono ?_; rintro e W5 ⟨rfl, hb⟩; replace hB := below_step (below_step hB (below_new _ _)) hb; replace b2 := (Blk.old b2 _).keep hb; clear hb))
  go_ret3
  exact ⟨rfl, hB⟩
set_option maxRecDepth 100000 in
set_option maxHeartbeats 4000000 in
theorem pDigits_yes (n : Bool) (s : ByteArray) (T : Nat) (hs : s.size ≤ 60) (hT : T ≤ 60) (hk : okB n s (T : Int) = true) (w : World) : Calls Tryz.prog 21 #[.agg #[.bool n, .string s, .int .i64 (T : Int)]] w fun e w' => e = .returned (.tuple #[.int .i64 (max (s.size : Int) (T : Int)), .int .i64 (T : Int), .int .i64 0]) ∧ Below w.heap.size w w' := by
  have C : Hid _ := Lib.hid (pchecked1_yes n s (T : Int) (by omega) hk)
  obtain ⟨M, hM⟩ : ∃ M : Nat, M = max s.size T := ⟨_, rfl⟩
  have hmx : max (s.size : Int) (T : Int) = (M : Int) := by omega
  have hMl : M ≤ 60 := by omega
  rw [hmx]
  clear hk hM
  go_enter Tryz.func21, Tryz.ntmps21
  go_wp2_with (first
    | (refine wl_boxA rfl (.tmp 0) rfl rfl (fun W2 b2 hb2 => ?_); have hB := hb2; have l2 := b2.lt; clear hb2)
    | (refine wl_loadA (ty := 23) b2 rfl (by kernel_rfl) _ rfl rfl ?_)
    | (go_at_call 43; refine (C.out _ _ (by simp [World.cell?_alloc_new]) (by simp [World.cell?_alloc_new]) (by simp [World.cell?_alloc_new])).mono ?_; rintro e W5 ⟨rfl, hb⟩; replace hB := below_step (below_step hB (below_new _ _)) hb; replace b2 := (Blk.old b2 _).keep hb; clear hb))
  refine wp_region_held_drew (S := fun W : World => Below w.heap.size w W ∧ Blk W w.heap.size 23 #[.bool n, .string s, .int .i64 (T : Int)]) (by kernel_rfl) ⟨below_step hB (below_drew _), b2.drew⟩ (fun hS => ?_)
  refine takeH (i := 0) (d := some 9) (v := ?v27) rfl rfl (by kernel_rfl) (by kernel_rfl) (by kernel_rfl) (fun _ _ _ h => h) (Or.inl ⟨by rfl, ?h27⟩) hS ?_
  case h27 => intro W _; go_simp; try with_reducible rfl
  simp only [Act.put, List.setIfInBounds_toArray, List.set_cons_zero, List.set_cons_succ]
  refine takeH (i := 1) (d := some 10) (v := .string s) rfl rfl (by kernel_rfl) (by kernel_rfl) (by kernel_rfl) (fun _ _ _ h => h) (yields_C rfl (by rfl) (by kernel_rfl) _ rfl (j := 1) rfl rfl (fun W hW => hW.2)) hS ?_
  simp only [Act.put, List.setIfInBounds_toArray, List.set_cons_zero, List.set_cons_succ]
  refine takeH (i := 2) (d := some 11) (v := ?v28) rfl rfl (by kernel_rfl) (by kernel_rfl) (by kernel_rfl) (fun _ _ _ h => h) (Or.inl ⟨by rfl, ?h28⟩) hS ?_
  case h28 => intro W _; go_simp; try with_reducible rfl
  simp only [Act.put, List.setIfInBounds_toArray, List.set_cons_zero, List.set_cons_succ]
  refine takeH (i := 3) (d := some 12) (v := ?v29) rfl rfl (by kernel_rfl) (by kernel_rfl) (by kernel_rfl) (fun _ _ _ h => h) (Or.inl ⟨by rfl, ?h29⟩) hS ?_
  case h29 => intro W _; go_simp; try with_reducible rfl
  simp only [Act.put, List.setIfInBounds_toArray, List.set_cons_zero, List.set_cons_succ]
  refine takeH (i := 4) (d := some 13) (v := .int .i64 (T : Int)) rfl rfl (by kernel_rfl) (by kernel_rfl) (by kernel_rfl) (fun _ _ _ h => h) (yields_C rfl (by rfl) (by kernel_rfl) _ rfl (j := 2) rfl rfl (fun W hW => hW.2)) hS ?_
  simp only [Act.put, List.setIfInBounds_toArray, List.set_cons_zero, List.set_cons_succ]
  refine takeH (i := 5) (d := some 14) (v := ?v30) rfl rfl (by kernel_rfl) (by kernel_rfl) (by kernel_rfl) (fun _ _ _ h => h) (Or.inl ⟨by rfl, ?h30⟩) hS ?_
  case h30 => intro W _; go_simp; try with_reducible rfl
  simp only [Act.put, List.setIfInBounds_toArray, List.set_cons_zero, List.set_cons_succ]
  refine takeH (i := 6) (d := some 15) (v := ?v31) rfl rfl (by kernel_rfl) (by kernel_rfl) (by kernel_rfl) (fun _ _ _ h => h) (Or.inl ⟨by rfl, ?h31⟩) hS ?_
  case h31 => intro W _; go_simp; try with_reducible rfl
  simp only [Act.put, List.setIfInBounds_toArray, List.set_cons_zero, List.set_cons_succ]
  refine takeH (i := 7) (d := some 16) (v := .int .i64 (T : Int)) rfl rfl (by kernel_rfl) (by kernel_rfl) (by kernel_rfl) (fun _ _ _ h => h) (yields_C rfl (by rfl) (by kernel_rfl) _ rfl (j := 2) rfl rfl (fun W hW => hW.2)) hS ?_
  simp only [Act.put, List.setIfInBounds_toArray, List.set_cons_zero, List.set_cons_succ]
  refine takeH (i := 8) (d := some 2) (v := ?v32) rfl rfl (by kernel_rfl) (by kernel_rfl) (by kernel_rfl) (fun _ _ _ h => h) (Or.inl ⟨by rfl, ?h32⟩) hS ?_
  case h32 => intro W _; go_simp; try with_reducible rfl
  simp only [Act.put, List.setIfInBounds_toArray, List.set_cons_zero, List.set_cons_succ]
  refine takeH (i := 9) (d := some 3) (v := ?v33) rfl rfl (by kernel_rfl) (by kernel_rfl) (by kernel_rfl) (fun _ _ _ h => h) (Or.inl ⟨by rfl, ?h33⟩) hS ?_
  case h33 => intro W _; go_simp; try with_reducible rfl
  simp only [Act.put, List.setIfInBounds_toArray, List.set_cons_zero, List.set_cons_succ]
  refine takeH (i := 10) (d := some 4) (v := ?v34) rfl rfl (by kernel_rfl) (by kernel_rfl) (by kernel_rfl) (fun _ _ _ h => h) (Or.inl ⟨by rfl, ?h34⟩) hS ?_
  case h34 => intro W _; go_simp; try with_reducible rfl
  simp only [Act.put, List.setIfInBounds_toArray, List.set_cons_zero, List.set_cons_succ]
  refine wpAnyH_done (by kernel_rfl) ?_ _
  go_wp2
  go_ret3
  exact ⟨rfl, hS.1⟩
theorem pdigits_is (n : Bool) (s : ByteArray) (S : Int) (hs : s.size ≤ 1000000) (x y k : Int) (hr : countR n s S = (x, y, k)) (w : World) : Calls Tryz.prog 21 #[.agg #[.bool n, .string s, .int .i64 S]] w fun e w' => e = .returned (.tuple #[.int .i64 x, .int .i64 y, .int .i64 k]) ∧ Below w.heap.size w w' := by
  unfold countR at hr
  cases h1 : okB n s S with
  | false =>
    rw [if_neg (by rw [h1]; decide)] at hr; cases hr
    exact pDigits_no n s S hs h1 w
  | true =>
    rw [if_pos h1] at hr; cases hr
    have k1 := okB_ok h1
    obtain ⟨T, rfl⟩ : ∃ T : Nat, S = T := ⟨S.toNat, by have := k1.low; omega⟩
    exact pDigits_yes n s T k1.size (by have := k1.high; omega) h1 w
set_option maxRecDepth 100000 in
set_option maxHeartbeats 4000000 in
theorem pDiv_no1 (n : Bool) (s : ByteArray) (S : Int) (m : Bool) (t : ByteArray) (U : Int) (K : Int) (hs : s.size ≤ 1000000) (hk : okB n s S = false) (w : World) : Calls Tryz.prog 17 #[.agg #[.bool n, .string s, .int .i64 S], .agg #[.bool m, .string t, .int .i64 U], .int .i64 K] w fun e w' => e = argR.ret ∧ Below w.heap.size w w' := by
  have C : Hid _ := Lib.hid (pchecked2_no n s S hs m t U hk)
  clear hk
  go_enter Tryz.func17, Tryz.ntmps17
  go_wp2_with (first
    | (refine wl_boxA rfl (.tmp 0) rfl rfl (fun W2 b2 hb2 => ?_))
    | (refine wl_boxA rfl (.tmp 1) rfl rfl (fun W3 b3 hb3 => ?_); have l2 := b2.lt; have l22 := hb2.size; replace b2 := b2.keep hb3; have l3 := b3.lt)
    | (refine wl_allocA rfl zero_dec rfl (fun W4 b4 hb4 => ?_); replace b2 := b2.keep hb4; replace b3 := b3.keep hb4; have hB := below_step (below_step hb2 hb3) hb4; clear hb2 hb3 hb4)
    | (refine wl_loadA (ty := 23) b2 rfl (by kernel_rfl) _ rfl rfl ?_)
    | (refine wl_loadA (ty := 23) b3 rfl (by kernel_rfl) _ rfl rfl ?_)
    | (go_at_call 43; refine (C.out _ _ (by simp [World.cell?_alloc_new]) (by simp [World.cell?_alloc_new]) (by simp [World.cell?_alloc_new]) (by simp [World.cell?_alloc_new]) (by simp [World.cell?_alloc_new]) (by simp [World.cell?_alloc_new])).mono ?_; rintro e W5 ⟨rfl, hb⟩; replace hB := below_step (below_step hB (below_new _ _)) hb; replace b2 := (Blk.old b2 _).keep hb; replace b3 := (Blk.old b3 _).keep hb; replace b4 := (Blk.old b4 _).keep hb; clear hb; have c31 := b3.at (j := 1) rfl)
    | (refine wl_storeA b4 rfl _ _ rfl rfl rfl (by kernel_rfl) rfl rfl rfl (fun W8 b8 hg => ?_); have hB8 := below_far hB hB.size (by omega) hg; clear hg))
  exact bodyPost_ret (res_cell_tmp rfl b8 (by kernel_rfl) rfl rfl) rfl ⟨rfl, hB8⟩
set_option maxRecDepth 100000 in
set_option maxHeartbeats 4000000 in
theorem pDiv_no2 (n : Bool) (s : ByteArray) (S : Int) (m : Bool) (t : ByteArray) (U : Int) (K : Int) (hs : s.size ≤ 1000000) (ht : t.size ≤ 1000000) (hk1 : okB n s S = true) (hk : okB m t U = false) (w : World) : Calls Tryz.prog 17 #[.agg #[.bool n, .string s, .int .i64 S], .agg #[.bool m, .string t, .int .i64 U], .int .i64 K] w fun e w' => e = argR.ret ∧ Below w.heap.size w w' := by
  have C : Hid _ := Lib.hid (pchecked2_yn n s S hs m t U ht hk1 hk)
  clear hk1 hk
  go_enter Tryz.func17, Tryz.ntmps17
  go_wp2_with (first
    | (refine wl_boxA rfl (.tmp 0) rfl rfl (fun W2 b2 hb2 => ?_))
    | (refine wl_boxA rfl (.tmp 1) rfl rfl (fun W3 b3 hb3 => ?_); have l2 := b2.lt; have l22 := hb2.size; replace b2 := b2.keep hb3; have l3 := b3.lt)
    | (refine wl_allocA rfl zero_dec rfl (fun W4 b4 hb4 => ?_); replace b2 := b2.keep hb4; replace b3 := b3.keep hb4; have hB := below_step (below_step hb2 hb3) hb4; clear hb2 hb3 hb4)
    | (refine wl_loadA (ty := 23) b2 rfl (by kernel_rfl) _ rfl rfl ?_)
    | (refine wl_loadA (ty := 23) b3 rfl (by kernel_rfl) _ rfl rfl ?_)
    | (go_at_call 43; refine (C.out _ _ (by simp [World.cell?_alloc_new]) (by simp [World.cell?_alloc_new]) (by simp [World.cell?_alloc_new]) (by simp [World.cell?_alloc_new]) (by simp [World.cell?_alloc_new]) (by simp [World.cell?_alloc_new])).mono ?_; rintro e W5 ⟨rfl, hb⟩; replace hB := below_step (below_step hB (below_new _ _)) hb; replace b2 := (Blk.old b2 _).keep hb; replace b3 := (Blk.old b3 _).keep hb; replace b4 := (Blk.old b4 _).keep hb; clear hb; have c31 := b3.at (j := 1) rfl)
    | (refine wl_storeA b4 rfl _ _ rfl rfl rfl (by kernel_rfl) rfl rfl rfl (fun W8 b8 hg => ?_); have hB8 := below_far hB hB.size (by omega) hg; clear hg))
  exact bodyPost_ret (res_cell_tmp rfl b8 (by kernel_rfl) rfl rfl) rfl ⟨rfl, hB8⟩
set_option maxRecDepth 100000 in
set_option maxHeartbeats 4000000 in
theorem pDiv_noz (n : Bool) (s : ByteArray) (S : Int) (m : Bool) (t : ByteArray) (U : Int) (K : Int) (hs : s.size ≤ 1000000) (ht : t.size ≤ 1000000) (hk1 : okB n s S = true) (hk2 : okB m t U = true) (q : (t.toList == [48]) = true) (w : World) : Calls Tryz.prog 17 #[.agg #[.bool n, .string s, .int .i64 S], .agg #[.bool m, .string t, .int .i64 U], .int .i64 K] w fun e w' => e = argR.ret ∧ Below w.heap.size w w' := by
  have C : Hid _ := Lib.hid (pchecked2_yes n s S hs m t U ht hk1 hk2)
  clear hk1 hk2
  go_enter Tryz.func17, Tryz.ntmps17
  go_wp2_with (first
    | (refine wl_boxA rfl (.tmp 0) rfl rfl (fun W2 b2 hb2 => ?_))
    | (refine wl_boxA rfl (.tmp 1) rfl rfl (fun W3 b3 hb3 => ?_); have l2 := b2.lt; have l22 := hb2.size; replace b2 := b2.keep hb3; have l3 := b3.lt)
    | (refine wl_allocA rfl zero_dec rfl (fun W4 b4 hb4 => ?_); replace b2 := b2.keep hb4; replace b3 := b3.keep hb4; have hB := below_step (below_step hb2 hb3) hb4; clear hb2 hb3 hb4)
    | (refine wl_loadA (ty := 23) b2 rfl (by kernel_rfl) _ rfl rfl ?_)
    | (refine wl_loadA (ty := 23) b3 rfl (by kernel_rfl) _ rfl rfl ?_)
    | (go_at_call 43; refine (C.out _ _ (by simp [World.cell?_alloc_new]) (by simp [World.cell?_alloc_new]) (by simp [World.cell?_alloc_new]) (by simp [World.cell?_alloc_new]) (by simp [World.cell?_alloc_new]) (by simp [World.cell?_alloc_new])).mono ?_; rintro e W5 ⟨rfl, hb⟩; replace hB := below_step (below_step hB (below_new _ _)) hb; replace b2 := (Blk.old b2 _).keep hb; replace b3 := (Blk.old b3 _).keep hb; replace b4 := (Blk.old b4 _).keep hb; clear hb; have c31 := b3.at (j := 1) rfl)
    | (refine wl_storeA b4 rfl _ _ rfl rfl rfl (by kernel_rfl) rfl rfl rfl (fun W8 b8 hg => ?_); have hB8 := below_far hB hB.size (by omega) hg; clear hg))
  exact bodyPost_ret (res_cell_tmp rfl b8 (by kernel_rfl) rfl rfl) rfl ⟨rfl, hB8⟩
set_option maxRecDepth 100000 in
set_option maxHeartbeats 4000000 in
theorem pDiv_non (n : Bool) (s : ByteArray) (S : Int) (m : Bool) (t : ByteArray) (U : Int) (K : Int) (hs : s.size ≤ 1000000) (ht : t.size ≤ 1000000) (hk1 : okB n s S = true) (hk2 : okB m t U = true) (q : (t.toList == [48]) = false) (d1 : decide (K < 0) = true) (w : World) : Calls Tryz.prog 17 #[.agg #[.bool n, .string s, .int .i64 S], .agg #[.bool m, .string t, .int .i64 U], .int .i64 K] w fun e w' => e = argR.ret ∧ Below w.heap.size w w' := by
  have C : Hid _ := Lib.hid (pchecked2_yes n s S hs m t U ht hk1 hk2)
  clear hk1 hk2
  go_enter Tryz.func17, Tryz.ntmps17
  go_wp2_with (first
    | (refine wl_boxA rfl (.tmp 0) rfl rfl (fun W2 b2 hb2 => ?_))
    | (refine wl_boxA rfl (.tmp 1) rfl rfl (fun W3 b3 hb3 => ?_); have l2 := b2.lt; have l22 := hb2.size; replace b2 := b2.keep hb3; have l3 := b3.lt)
    | (refine wl_allocA rfl zero_dec rfl (fun W4 b4 hb4 => ?_); replace b2 := b2.keep hb4; replace b3 := b3.keep hb4; have hB := below_step (below_step hb2 hb3) hb4; clear hb2 hb3 hb4)
    | (refine wl_loadA (ty := 23) b2 rfl (by kernel_rfl) _ rfl rfl ?_)
    | (refine wl_loadA (ty := 23) b3 rfl (by kernel_rfl) _ rfl rfl ?_)
    | (go_at_call 43; refine (C.out _ _ (by simp [World.cell?_alloc_new]) (by simp [World.cell?_alloc_new]) (by simp [World.cell?_alloc_new]) (by simp [World.cell?_alloc_new]) (by simp [World.cell?_alloc_new]) (by simp [World.cell?_alloc_new])).mono ?_; rintro e W5 ⟨rfl, hb⟩; replace hB := below_step (below_step hB (below_new _ _)) hb; replace b2 := (Blk.old b2 _).keep hb; replace b3 := (Blk.old b3 _).keep hb; replace b4 := (Blk.old b4 _).keep hb; clear hb; have c31 := b3.at (j := 1) rfl)
    | (refine wl_storeA b4 rfl _ _ rfl rfl rfl (by kernel_rfl) rfl rfl rfl (fun W8 b8 hg => ?_); have hB8 := below_far hB hB.size (by omega) hg; clear hg))
  exact bodyPost_ret (res_cell_tmp rfl b8 (by kernel_rfl) rfl rfl) rfl ⟨rfl, hB8⟩
set_option maxRecDepth 100000 in
set_option maxHeartbeats 4000000 in
theorem pDiv_now (n : Bool) (s : ByteArray) (S : Int) (m : Bool) (t : ByteArray) (U : Int) (K : Int) (hs : s.size ≤ 1000000) (ht : t.size ≤ 1000000) (hk1 : okB n s S = true) (hk2 : okB m t U = true) (q : (t.toList == [48]) = false) (d1 : decide (K < 0) = false) (d2 : decide (60 < K) = true) (w : World) : Calls Tryz.prog 17 #[.agg #[.bool n, .string s, .int .i64 S], .agg #[.bool m, .string t, .int .i64 U], .int .i64 K] w fun e w' => e = argR.ret ∧ Below w.heap.size w w' := by
  have C : Hid _ := Lib.hid (pchecked2_yes n s S hs m t U ht hk1 hk2)
  clear hk1 hk2
  go_enter Tryz.func17, Tryz.ntmps17
  go_wp2_with (first
    | (refine wl_boxA rfl (.tmp 0) rfl rfl (fun W2 b2 hb2 => ?_))
    | (refine wl_boxA rfl (.tmp 1) rfl rfl (fun W3 b3 hb3 => ?_); have l2 := b2.lt; have l22 := hb2.size; replace b2 := b2.keep hb3; have l3 := b3.lt)
    | (refine wl_allocA rfl zero_dec rfl (fun W4 b4 hb4 => ?_); replace b2 := b2.keep hb4; replace b3 := b3.keep hb4; have hB := below_step (below_step hb2 hb3) hb4; clear hb2 hb3 hb4)
    | (refine wl_loadA (ty := 23) b2 rfl (by kernel_rfl) _ rfl rfl ?_)
    | (refine wl_loadA (ty := 23) b3 rfl (by kernel_rfl) _ rfl rfl ?_)
    | (go_at_call 43; refine (C.out _ _ (by simp [World.cell?_alloc_new]) (by simp [World.cell?_alloc_new]) (by simp [World.cell?_alloc_new]) (by simp [World.cell?_alloc_new]) (by simp [World.cell?_alloc_new]) (by simp [World.cell?_alloc_new])).mono ?_; rintro e W5 ⟨rfl, hb⟩; replace hB := below_step (below_step hB (below_new _ _)) hb; replace b2 := (Blk.old b2 _).keep hb; replace b3 := (Blk.old b3 _).keep hb; replace b4 := (Blk.old b4 _).keep hb; clear hb; have c31 := b3.at (j := 1) rfl)
    | (refine wl_storeA b4 rfl _ _ rfl rfl rfl (by kernel_rfl) rfl rfl rfl (fun W8 b8 hg => ?_); have hB8 := below_far hB hB.size (by omega) hg; clear hg))
  exact bodyPost_ret (res_cell_tmp rfl b8 (by kernel_rfl) rfl rfl) rfl ⟨rfl, hB8⟩
set_option maxRecDepth 100000 in
set_option maxHeartbeats 16000000 in
theorem pDiv_yes (n : Bool) (s : ByteArray) (S : Int) (m : Bool) (t : ByteArray) (U : Int) (K : Nat) (hk1 : okB n s S = true) (hk2 : okB m t U = true) (hz : bts t ≠ [48]) (hK : K ≤ 60) (r : Res) (hr : resOf (Dc.divD (rawD n s S) (rawD m t U) K) = r) (w : World) (hP : Pow w) : Calls Tryz.prog 17 #[.agg #[.bool n, .string s, .int .i64 S], .agg #[.bool m, .string t, .int .i64 U], .int .i64 (K : Int)] w fun e w' => e = .returned (.tuple #[.agg #[.bool r.n, .string r.s, .int .i64 r.S], .int .i64 r.k]) ∧ Below w.heap.size w w' := by
  have h1 := okB_ok hk1
  have h2 := okB_ok hk2
  obtain ⟨T, rfl⟩ : ∃ T : Nat, S = T := ⟨S.toNat, by have := h1.low; omega⟩
  obtain ⟨V, rfl⟩ : ∃ V : Nat, U = V := ⟨U.toNat, by have := h2.low; omega⟩
  have hT : T ≤ 60 := by have := h1.high; omega
  have hV : V ≤ 60 := by have := h2.high; omega
  have C : Hid _ := Lib.hid (pchecked2_yes n s (T : Int) (by have := h1.size; omega) m t (V : Int) (by have := h2.size; omega) hk1 hk2)
  obtain ⟨M, hM⟩ : ∃ M : Nat, M = max T V := ⟨_, rfl⟩
  have hmx : max (T : Int) (V : Int) = (M : Int) := by omega
  have hTM : T ≤ M := by omega
  have hVM : V ≤ M := by omega
  have hMl : M ≤ 60 := by omega
  obtain ⟨c, hc⟩ : ∃ c, M - T + K = c := ⟨_, rfl⟩
  obtain ⟨a, ha⟩ : ∃ a, M - T = a := ⟨_, rfl⟩
  have hai : IntKind.i64.wrap ((M : Int) - (T : Int)) = (a : Int) := by rw [IntKind.wrap_i64]; omega
  have hci : IntKind.i64.wrap ((a : Int) + (K : Int)) = (c : Int) := by rw [IntKind.wrap_i64]; omega
  have hcl : c ≤ 120 := by omega
  have C1 : Hid _ := Lib.hid (repeat_zeros c (by omega))
  have C2 : Hid _ := Lib.hid (pscaled_any m t V M h2.size h2.dig.all (by omega) (by omega))
  have hss : s.size ≤ 60 := h1.size
  have HD : Hid _ := Lib.hid h1.dig.all
  have hv0 : Dc.val (bts t) ≠ 0 := fun h0 => hz (by rw [h2.eq, h0]; rfl)
  have x2 := scaled_low (c := M - V) h2.size h2.dig.all (by omega)
  have HY : Hid (0 < Dc.val (bts t) * 10 ^ (M - V) ∧ Dc.val (bts t) * 10 ^ (M - V) * 10 ≤ top) := Lib.hid ⟨Nat.mul_pos (Nat.pos_of_ne_zero hv0) (Dc.pow10_pos _), by
    rw [top_pow]
    have h3 : Dc.val (bts t) * 10 ^ (M - V) * 10 ≤ 10 ^ 120 * 10 := Nat.mul_le_mul_right _ (Nat.le_of_lt x2)
    exact Nat.le_trans h3 (by rw [← Nat.pow_succ]; exact Nat.pow_le_pow_right (by decide) (by decide))⟩
  obtain ⟨qv, hqv⟩ : ∃ q, Dc.quo (rawD n s (T : Int)) (rawD m t (V : Int)) K = q := ⟨_, rfl⟩
  have HQV : Hid (Dc.val (bts s) * 10 ^ c / (Dc.val (bts t) * 10 ^ (M - V)) = qv) := Lib.hid (by rw [← hqv, ← hc, hM]; simp [Dc.quo, rawD])
  have HQL : Hid (qv < 10 ^ 180) := Lib.hid (by
    have h3 := Dc.val_lt h1.dig.all
    rw [bts_length] at h3
    have h4 : Dc.val (bts s) * 10 ^ c < 10 ^ 60 * 10 ^ 120 := Nat.mul_lt_mul_of_lt_of_le (Nat.lt_of_lt_of_le h3 (Nat.pow_le_pow_right (by decide) h1.size)) (Nat.pow_le_pow_right (by decide) hcl) (Dc.pow10_pos _)
    rw [← Nat.pow_add] at h4
    rw [← HQV.out]
    exact Nat.lt_of_le_of_lt (Nat.div_le_self _ _) h4)
  have HR : Hid (resOf (Dc.can (n != m) qv K) = r) := Lib.hid (by rw [← hr, ← hqv]; rfl)
  have HP : Hid _ := Lib.hid hP
  have q : (t.toList == [48]) = false := by rw [word_beq]; exact decide_eq_false hz
  have d1 : decide ((K : Int) < 0) = false := decide_eq_false (by omega)
  have d2 : decide (60 < (K : Int)) = false := decide_eq_false (by omega)
  clear h1 h2 hk1 hk2 hr hP hz hv0 x2 hqv hM hc ha
  go_enter Tryz.func17, Tryz.ntmps17
  go_wp2_with (first
    | (refine wl_boxA rfl (.tmp 0) rfl rfl (fun W2 b2 hb2 => ?_))
    | (refine wl_boxA rfl (.tmp 1) rfl rfl (fun W3 b3 hb3 => ?_); have l2 := b2.lt; have l22 := hb2.size; replace b2 := b2.keep hb3; have l3 := b3.lt)
    | (refine wl_allocA rfl zero_dec rfl (fun W4 b4 hb4 => ?_); replace b2 := b2.keep hb4; replace b3 := b3.keep hb4; have hB := below_step (below_step hb2 hb3) hb4; clear hb2 hb3 hb4)
    | (refine wl_loadA (ty := 23) b2 rfl (by kernel_rfl) _ rfl rfl ?_)
    | (refine wl_loadA (ty := 23) b3 rfl (by kernel_rfl) _ rfl rfl ?_)
    | (go_at_call 43; refine (C.out _ _ (by simp [World.cell?_alloc_new]) (by simp [World.cell?_alloc_new]) (by simp [World.cell?_alloc_new]) (by simp [World.cell?_alloc_new]) (by simp [World.cell?_alloc_new]) (by simp [World.cell?_alloc_new])).mono ?_; rintro e W5 ⟨rfl, hb⟩; replace hB := below_step (below_step hB (below_new _ _)) hb; replace b2 := (Blk.old b2 _).keep hb; replace b3 := (Blk.old b3 _).keep hb; replace b4 := (Blk.old b4 _).keep hb; clear hb; have c31 := b3.at (j := 1) rfl)
    | (refine wl_loadC b2 rfl (by kernel_rfl) _ rfl (j := 2) rfl rfl ?_)
    | (refine wl_loadC b3 rfl (by kernel_rfl) _ rfl (j := 2) rfl rfl ?_))
  clear c31
  go_cut [9] (fun x W => ∃ g7 Q, x = .pointer (some ⟨g7, 0, none⟩) ∧ W3.heap.size < g7 ∧ Hid (Num Q ∧ Dc.valB Q = qv) ∧ Row24 W g7 Q ∧ Below w.heap.size w W ∧ Blk W w.heap.size 23 #[.bool n, .string s, .int .i64 (T : Int)] ∧ Blk W W2.heap.size 23 #[.bool m, .string t, .int .i64 (V : Int)] ∧ Blk W W3.heap.size 23 #[.bool false, .string ⟨#[]⟩, .int .i64 0])
  case first =>
    refine wp_region_held_drew (S := fun W : World => Below w.heap.size w W ∧ Blk W w.heap.size 23 #[.bool n, .string s, .int .i64 (T : Int)] ∧ Blk W W2.heap.size 23 #[.bool m, .string t, .int .i64 (V : Int)] ∧ Blk W W3.heap.size 23 #[.bool false, .string ⟨#[]⟩, .int .i64 0]) (by kernel_rfl) ⟨below_step hB (below_drew _), b2.drew, b3.drew, b4.drew⟩ (fun hS => ?_)
    refine takeH (i := 0) (d := some 36) (v := ?v35) rfl rfl (by kernel_rfl) (by kernel_rfl) (by kernel_rfl) (fun _ _ _ h => h) (Or.inl ⟨by rfl, ?h35⟩) hS ?_
    case h35 => intro W _; go_simp; try with_reducible rfl
    simp only [Act.put, List.setIfInBounds_toArray, List.set_cons_zero, List.set_cons_succ]
    refine takeH (i := 1) (d := some 37) (v := .string s) rfl rfl (by kernel_rfl) (by kernel_rfl) (by kernel_rfl) (fun _ _ _ h => h) (yields_C rfl (by rfl) (by kernel_rfl) _ rfl (j := 1) rfl rfl (fun W hW => hW.2.1)) hS ?_
    simp only [Act.put, List.setIfInBounds_toArray, List.set_cons_zero, List.set_cons_succ]
    refine takeH (i := 2) (d := some 38) (v := ?v36) rfl rfl (by kernel_rfl) (by kernel_rfl) (by kernel_rfl) (fun _ _ _ h => h) (Or.inl ⟨by rfl, ?h36⟩) hS ?_
    case h36 => intro W _; go_simp; try with_reducible rfl
    simp only [Act.put, List.setIfInBounds_toArray, List.set_cons_zero, List.set_cons_succ]
    refine takeH (i := 3) (d := some 39) (v := ?v37) rfl rfl (by kernel_rfl) (by kernel_rfl) (by kernel_rfl) (fun _ _ _ h => h) (Or.inl ⟨by rfl, ?h37⟩) hS ?_
    case h37 => intro W _; go_simp; try with_reducible rfl
    simp only [Act.put, List.setIfInBounds_toArray, List.set_cons_zero, List.set_cons_succ]
    refine takeH (i := 4) (d := some 40) (v := .int .i64 (T : Int)) rfl rfl (by kernel_rfl) (by kernel_rfl) (by kernel_rfl) (fun _ _ _ h => h) (yields_C rfl (by rfl) (by kernel_rfl) _ rfl (j := 2) rfl rfl (fun W hW => hW.2.1)) hS ?_
    simp only [Act.put, List.setIfInBounds_toArray, List.set_cons_zero, List.set_cons_succ]
    refine takeH (i := 5) (d := some 41) (v := ?v38) rfl rfl (by kernel_rfl) (by kernel_rfl) (by kernel_rfl) (fun _ _ _ h => h) (Or.inl ⟨by rfl, ?h38⟩) hS ?_
    case h38 => intro W _; go_simp; try with_reducible rfl
    simp only [Act.put, List.setIfInBounds_toArray, List.set_cons_zero, List.set_cons_succ]
    refine takeH (i := 6) (d := some 42) (v := ?v39) rfl rfl (by kernel_rfl) (by kernel_rfl) (by kernel_rfl) (fun _ _ _ h => h) (Or.inl ⟨by rfl, ?h39⟩) hS ?_
    case h39 => intro W _; go_simp; try with_reducible rfl
    simp only [Act.put, List.setIfInBounds_toArray, List.set_cons_zero, List.set_cons_succ]
    refine takeH (i := 7) (d := some 43) (v := ?v40) rfl rfl (by kernel_rfl) (by kernel_rfl) (by kernel_rfl) (fun _ _ _ h => h) (Or.inl ⟨by rfl, ?h40⟩) hS ?_
    case h40 => intro W _; go_simp; try with_reducible rfl
    simp only [Act.put, List.setIfInBounds_toArray, List.set_cons_zero, List.set_cons_succ]
    refine takeH (i := 10) (d := some 46) (v := _) rfl rfl (by kernel_rfl) (by kernel_rfl) (by kernel_rfl) (fun _ _ _ h => h) (yields_A rfl (by rfl) (by kernel_rfl) _ rfl rfl (fun W hW => hW.2.2.1)) hS ?_
    simp only [Act.put, List.setIfInBounds_toArray, List.set_cons_zero, List.set_cons_succ]
    refine takeH (i := 11) (d := some 47) (v := ?v41) rfl rfl (by kernel_rfl) (by kernel_rfl) (by kernel_rfl) (fun _ _ _ h => h) (Or.inl ⟨by rfl, ?h41⟩) hS ?_
    case h41 => intro W _; go_simp; try with_reducible rfl
    simp only [Act.put, List.setIfInBounds_toArray, List.set_cons_zero, List.set_cons_succ]
    refine wpAnyH_ready (rs := [8, 17, 18]) (by kernel_rfl) (by simp) ?_
    refine AllReadyH.cons rfl (fun Kc hKc => ?_) ?_
    ·   skip
        go_simp
        refine (C1.out _).mono ?_
        rintro e W1 ⟨⟨z, rfl, hz⟩, hb⟩
        obtain ⟨u, hu⟩ : ∃ u, s ++ z = u := ⟨_, rfl⟩
        have hzl : z.size ≤ 120 := by rw [← bts_length, hz, List.length_replicate]; omega
        have hub : bts u = bts s ++ List.replicate c 48 := by rw [← hu, str_add, hz]
        have HU : Hid _ := Lib.hid hub
        clear hz hub
        (try replace r7 := r7.keep hb)
        (try replace r8 := r8.keep hb)
        refine hKc.out _ _ ⟨below_step hS.1 hb, hS.2.1.keep hb, hS.2.2.1.keep hb, hS.2.2.2.keep hb⟩ (fun hS => ?_)
        clear hKc Kc
        refine takeH (i := 9) (d := some 45) (v := ?v42) rfl rfl (by kernel_rfl) (by kernel_rfl) (by kernel_rfl) (fun _ _ _ h => h) (Or.inl ⟨by rfl, ?h42⟩) hS ?_
        case h42 => intro W _; have hq : ¬ 9223372036854775807 < s.size + z.size := (by omega); go_simp; try with_reducible rfl
        simp only [Act.put, List.setIfInBounds_toArray, List.set_cons_zero, List.set_cons_succ]
        refine wpAnyH_ready (rs := [12, 17, 18]) (by kernel_rfl) (by simp) ?_
        refine AllReadyH.cons rfl (fun Kc hKc => ?_) ?_
        ·   skip
            go_simp
            refine (C2.out _).mono ?_
            rintro e W1 ⟨⟨B, rfl, hB3⟩, hb⟩
            have HB : Hid _ := Lib.hid hB3
            clear hB3
            (try replace r7 := r7.keep hb)
            (try replace r8 := r8.keep hb)
            refine hKc.out _ _ ⟨below_step hS.1 hb, hS.2.1.keep hb, hS.2.2.1.keep hb, hS.2.2.2.keep hb⟩ (fun hS => ?_)
            clear hKc Kc
            refine wpAnyH_ready (rs := [13, 17, 18]) (by kernel_rfl) (by simp) ?_
            refine AllReadyH.cons rfl (fun Kc hKc => ?_) ?_
            ·   skip
                go_simp
                refine (pover_any u B (by rw [← bts_length, HU.out, List.length_append, bts_length, List.length_replicate]; omega) (by rw [HU.out, List.all_append, HD.out, Dc.zeros_dig]; rfl) HB.out.1 (by rw [HB.out.2]; exact HY.out.1) (by rw [HB.out.2]; exact HY.out.2) _).mono ?_
                rintro e W1 ⟨⟨Q, R, rfl, hQ, hR, hQv, hRv⟩, hb⟩
                have HQ : Hid _ := Lib.hid (And.intro hQ hQv)
                have hQl := hQ.len
                have hRl := hR.len
                clear hQ hR hQv hRv
                (try replace r7 := r7.keep hb)
                (try replace r8 := r8.keep hb)
                refine hKc.out _ _ ⟨below_step hS.1 hb, hS.2.1.keep hb, hS.2.2.1.keep hb, hS.2.2.2.keep hb⟩ (fun hS => ?_)
                clear hKc Kc
                refine takeH (i := 14) (d := some 35) (v := ?v43) rfl rfl (by kernel_rfl) (by kernel_rfl) (by kernel_rfl) (fun _ _ _ h => h) (Or.inl ⟨by rfl, ?h43⟩) hS ?_
                case h43 => intro W _; go_simp; try with_reducible rfl
                simp only [Act.put, List.setIfInBounds_toArray, List.set_cons_zero, List.set_cons_succ]
                refine takeH (i := 15) (d := some 50) (v := ?v44) rfl rfl (by kernel_rfl) (by kernel_rfl) (by kernel_rfl) (fun _ _ _ h => h) (Or.inl ⟨by rfl, ?h44⟩) hS ?_
                case h44 => intro W _; go_simp; try with_reducible rfl
                simp only [Act.put, List.setIfInBounds_toArray, List.set_cons_zero, List.set_cons_succ]
                refine takeH (i := 16) (d := some 51) (v := ?v45) rfl rfl (by kernel_rfl) (by kernel_rfl) (by kernel_rfl) (fun _ _ _ h => h) (Or.inl ⟨by rfl, ?h45⟩) hS ?_
                case h45 => intro W _; go_simp; try with_reducible rfl
                simp only [Act.put, List.setIfInBounds_toArray, List.set_cons_zero, List.set_cons_succ]
                refine wpAnyH_ready (rs := [17, 18]) (by kernel_rfl) (by simp) ?_
                refine AllReadyH.cons rfl (fun Kc hKc => ?_) ?_
                ·   skip
                    have l7 := hS.2.2.2.lt
                    (try have hne := (Nat.ne_of_lt r8.lt).symm)
                    refine st_of rfl (wp_allocA zero_num rfl (d := some 9) rfl (fun W1 a7 hb => ?_))
                    (try replace r8 := r8.keep hb)
                    have r7 : Row24 W1 _ (List.replicate 24 0) := ⟨a7, rfl⟩
                    clear a7
                    refine hKc.out _ _ ⟨below_step hS.1 hb, hS.2.1.keep hb, hS.2.2.1.keep hb, hS.2.2.2.keep hb⟩ (fun hS => ?_)
                    clear hKc Kc
                    simp only [Act.put, List.setIfInBounds_toArray, List.set_cons_zero, List.set_cons_succ]
                    refine wpAnyH_ready (rs := [18]) (by kernel_rfl) (by simp) ?_
                    refine AllReadyH.cons rfl (fun Kc hKc => ?_) AllReadyH.nil
                    have l8 := hS.2.2.2.lt
                    (try have hne := Nat.ne_of_lt r7.lt)
                    refine st_of rfl (wp_allocA zero_num rfl (d := some 10) rfl (fun W1 a8 hb => ?_))
                    (try replace r7 := r7.keep hb)
                    have r8 : Row24 W1 _ (List.replicate 24 0) := ⟨a8, rfl⟩
                    clear a8
                    refine hKc.out _ _ ⟨below_step hS.1 hb, hS.2.1.keep hb, hS.2.2.1.keep hb, hS.2.2.2.keep hb⟩ (fun hS => ?_)
                    clear hKc Kc
                    simp only [Act.put, List.setIfInBounds_toArray, List.set_cons_zero, List.set_cons_succ]
                    refine wpAnyH_ready (rs := [19]) (by kernel_rfl) (by simp) ?_
                    refine AllReadyH.cons rfl (fun Kc hKc => ?_) AllReadyH.nil
                    refine st_of rfl (wp_storeA r7.blk _ _ rfl rfl rfl (agg_num hQl) (by rw [numV_size, numV_size, hQl]; rfl) (numV_oneL Q) rfl (fun W1 a7 hg => ?_))
                    replace r8 := r8.far hg hne.symm
                    replace r7 : Row24 W1 _ Q := ⟨a7, hQl⟩
                    clear a7
                    refine hKc.out _ _ ⟨below_far hS.1 hS.1.size (by omega) hg, hS.2.1.far hg (by omega), hS.2.2.1.far hg (by omega), hS.2.2.2.far hg (by omega)⟩ (fun hS => ?_)
                    clear hKc Kc
                    refine wpAnyH_ready (rs := [20]) (by kernel_rfl) (by simp) ?_
                    refine AllReadyH.cons rfl (fun Kc hKc => ?_) AllReadyH.nil
                    refine st_of rfl (wp_storeA r8.blk _ _ rfl rfl rfl (agg_num hRl) (by rw [numV_size, numV_size, hRl]; rfl) (numV_oneL R) rfl (fun W1 a8 hg => ?_))
                    replace r7 := r7.far hg hne
                    replace r8 : Row24 W1 _ R := ⟨a8, hRl⟩
                    clear a8
                    refine hKc.out _ _ ⟨below_far hS.1 hS.1.size (by omega) hg, hS.2.1.far hg (by omega), hS.2.2.1.far hg (by omega), hS.2.2.2.far hg (by omega)⟩ (fun hS => ?_)
                    clear hKc Kc
                    refine wpAnyH_done (by kernel_rfl) ?_ _
                    go_wp2_with fail
                    go_meet
                    exact ⟨_, Q, rfl, l7, Lib.hid ⟨HQ.out.1, by rw [HQ.out.2, HU.out, HB.out.2, Dc.val_zeros_back]; exact HQV.out⟩, r7, hS.1, hS.2.1, hS.2.2.1, hS.2.2.2⟩
                refine AllReadyH.cons rfl (fun Kc hKc => ?_) AllReadyH.nil
                have l8 := hS.2.2.2.lt
                (try have hne := Nat.ne_of_lt r7.lt)
                refine st_of rfl (wp_allocA zero_num rfl (d := some 10) rfl (fun W1 a8 hb => ?_))
                (try replace r7 := r7.keep hb)
                have r8 : Row24 W1 _ (List.replicate 24 0) := ⟨a8, rfl⟩
                clear a8
                refine hKc.out _ _ ⟨below_step hS.1 hb, hS.2.1.keep hb, hS.2.2.1.keep hb, hS.2.2.2.keep hb⟩ (fun hS => ?_)
                clear hKc Kc
                simp only [Act.put, List.setIfInBounds_toArray, List.set_cons_zero, List.set_cons_succ]
                refine wpAnyH_ready (rs := [17]) (by kernel_rfl) (by simp) ?_
                refine AllReadyH.cons rfl (fun Kc hKc => ?_) AllReadyH.nil
                have l7 := hS.2.2.2.lt
                (try have hne := (Nat.ne_of_lt r8.lt).symm)
                refine st_of rfl (wp_allocA zero_num rfl (d := some 9) rfl (fun W1 a7 hb => ?_))
                (try replace r8 := r8.keep hb)
                have r7 : Row24 W1 _ (List.replicate 24 0) := ⟨a7, rfl⟩
                clear a7
                refine hKc.out _ _ ⟨below_step hS.1 hb, hS.2.1.keep hb, hS.2.2.1.keep hb, hS.2.2.2.keep hb⟩ (fun hS => ?_)
                clear hKc Kc
                simp only [Act.put, List.setIfInBounds_toArray, List.set_cons_zero, List.set_cons_succ]
                refine wpAnyH_ready (rs := [19]) (by kernel_rfl) (by simp) ?_
                refine AllReadyH.cons rfl (fun Kc hKc => ?_) AllReadyH.nil
                refine st_of rfl (wp_storeA r7.blk _ _ rfl rfl rfl (agg_num hQl) (by rw [numV_size, numV_size, hQl]; rfl) (numV_oneL Q) rfl (fun W1 a7 hg => ?_))
                replace r8 := r8.far hg hne.symm
                replace r7 : Row24 W1 _ Q := ⟨a7, hQl⟩
                clear a7
                refine hKc.out _ _ ⟨below_far hS.1 hS.1.size (by omega) hg, hS.2.1.far hg (by omega), hS.2.2.1.far hg (by omega), hS.2.2.2.far hg (by omega)⟩ (fun hS => ?_)
                clear hKc Kc
                refine wpAnyH_ready (rs := [20]) (by kernel_rfl) (by simp) ?_
                refine AllReadyH.cons rfl (fun Kc hKc => ?_) AllReadyH.nil
                refine st_of rfl (wp_storeA r8.blk _ _ rfl rfl rfl (agg_num hRl) (by rw [numV_size, numV_size, hRl]; rfl) (numV_oneL R) rfl (fun W1 a8 hg => ?_))
                replace r7 := r7.far hg hne
                replace r8 : Row24 W1 _ R := ⟨a8, hRl⟩
                clear a8
                refine hKc.out _ _ ⟨below_far hS.1 hS.1.size (by omega) hg, hS.2.1.far hg (by omega), hS.2.2.1.far hg (by omega), hS.2.2.2.far hg (by omega)⟩ (fun hS => ?_)
                clear hKc Kc
                refine wpAnyH_done (by kernel_rfl) ?_ _
                go_wp2_with fail
                go_meet
                exact ⟨_, Q, rfl, l7, Lib.hid ⟨HQ.out.1, by rw [HQ.out.2, HU.out, HB.out.2, Dc.val_zeros_back]; exact HQV.out⟩, r7, hS.1, hS.2.1, hS.2.2.1, hS.2.2.2⟩
            refine AllReadyH.cons rfl (fun Kc hKc => ?_) ?_
            ·   skip
                have l7 := hS.2.2.2.lt
                (try have hne := (Nat.ne_of_lt r8.lt).symm)
                refine st_of rfl (wp_allocA zero_num rfl (d := some 9) rfl (fun W1 a7 hb => ?_))
                (try replace r8 := r8.keep hb)
                have r7 : Row24 W1 _ (List.replicate 24 0) := ⟨a7, rfl⟩
                clear a7
                refine hKc.out _ _ ⟨below_step hS.1 hb, hS.2.1.keep hb, hS.2.2.1.keep hb, hS.2.2.2.keep hb⟩ (fun hS => ?_)
                clear hKc Kc
                simp only [Act.put, List.setIfInBounds_toArray, List.set_cons_zero, List.set_cons_succ]
                refine wpAnyH_ready (rs := [13, 18]) (by kernel_rfl) (by simp) ?_
                refine AllReadyH.cons rfl (fun Kc hKc => ?_) ?_
                ·   skip
                    go_simp
                    refine (pover_any u B (by rw [← bts_length, HU.out, List.length_append, bts_length, List.length_replicate]; omega) (by rw [HU.out, List.all_append, HD.out, Dc.zeros_dig]; rfl) HB.out.1 (by rw [HB.out.2]; exact HY.out.1) (by rw [HB.out.2]; exact HY.out.2) _).mono ?_
                    rintro e W1 ⟨⟨Q, R, rfl, hQ, hR, hQv, hRv⟩, hb⟩
                    have HQ : Hid _ := Lib.hid (And.intro hQ hQv)
                    have hQl := hQ.len
                    have hRl := hR.len
                    clear hQ hR hQv hRv
                    (try replace r7 := r7.keep hb)
                    (try replace r8 := r8.keep hb)
                    refine hKc.out _ _ ⟨below_step hS.1 hb, hS.2.1.keep hb, hS.2.2.1.keep hb, hS.2.2.2.keep hb⟩ (fun hS => ?_)
                    clear hKc Kc
                    refine takeH (i := 14) (d := some 35) (v := ?v46) rfl rfl (by kernel_rfl) (by kernel_rfl) (by kernel_rfl) (fun _ _ _ h => h) (Or.inl ⟨by rfl, ?h46⟩) hS ?_
                    case h46 => intro W _; go_simp; try with_reducible rfl
                    simp only [Act.put, List.setIfInBounds_toArray, List.set_cons_zero, List.set_cons_succ]
                    refine takeH (i := 15) (d := some 50) (v := ?v47) rfl rfl (by kernel_rfl) (by kernel_rfl) (by kernel_rfl) (fun _ _ _ h => h) (Or.inl ⟨by rfl, ?h47⟩) hS ?_
                    case h47 => intro W _; go_simp; try with_reducible rfl
                    simp only [Act.put, List.setIfInBounds_toArray, List.set_cons_zero, List.set_cons_succ]
                    refine takeH (i := 16) (d := some 51) (v := ?v48) rfl rfl (by kernel_rfl) (by kernel_rfl) (by kernel_rfl) (fun _ _ _ h => h) (Or.inl ⟨by rfl, ?h48⟩) hS ?_
                    case h48 => intro W _; go_simp; try with_reducible rfl
                    simp only [Act.put, List.setIfInBounds_toArray, List.set_cons_zero, List.set_cons_succ]
                    refine wpAnyH_ready (rs := [18]) (by kernel_rfl) (by simp) ?_
                    refine AllReadyH.cons rfl (fun Kc hKc => ?_) AllReadyH.nil
                    have l8 := hS.2.2.2.lt
                    (try have hne := Nat.ne_of_lt r7.lt)
                    refine st_of rfl (wp_allocA zero_num rfl (d := some 10) rfl (fun W1 a8 hb => ?_))
                    (try replace r7 := r7.keep hb)
                    have r8 : Row24 W1 _ (List.replicate 24 0) := ⟨a8, rfl⟩
                    clear a8
                    refine hKc.out _ _ ⟨below_step hS.1 hb, hS.2.1.keep hb, hS.2.2.1.keep hb, hS.2.2.2.keep hb⟩ (fun hS => ?_)
                    clear hKc Kc
                    simp only [Act.put, List.setIfInBounds_toArray, List.set_cons_zero, List.set_cons_succ]
                    refine wpAnyH_ready (rs := [19]) (by kernel_rfl) (by simp) ?_
                    refine AllReadyH.cons rfl (fun Kc hKc => ?_) AllReadyH.nil
                    refine st_of rfl (wp_storeA r7.blk _ _ rfl rfl rfl (agg_num hQl) (by rw [numV_size, numV_size, hQl]; rfl) (numV_oneL Q) rfl (fun W1 a7 hg => ?_))
                    replace r8 := r8.far hg hne.symm
                    replace r7 : Row24 W1 _ Q := ⟨a7, hQl⟩
                    clear a7
                    refine hKc.out _ _ ⟨below_far hS.1 hS.1.size (by omega) hg, hS.2.1.far hg (by omega), hS.2.2.1.far hg (by omega), hS.2.2.2.far hg (by omega)⟩ (fun hS => ?_)
                    clear hKc Kc
                    refine wpAnyH_ready (rs := [20]) (by kernel_rfl) (by simp) ?_
                    refine AllReadyH.cons rfl (fun Kc hKc => ?_) AllReadyH.nil
                    refine st_of rfl (wp_storeA r8.blk _ _ rfl rfl rfl (agg_num hRl) (by rw [numV_size, numV_size, hRl]; rfl) (numV_oneL R) rfl (fun W1 a8 hg => ?_))
                    replace r7 := r7.far hg hne
                    replace r8 : Row24 W1 _ R := ⟨a8, hRl⟩
                    clear a8
                    refine hKc.out _ _ ⟨below_far hS.1 hS.1.size (by omega) hg, hS.2.1.far hg (by omega), hS.2.2.1.far hg (by omega), hS.2.2.2.far hg (by omega)⟩ (fun hS => ?_)
                    clear hKc Kc
                    refine wpAnyH_done (by kernel_rfl) ?_ _
                    go_wp2_with fail
                    go_meet
                    exact ⟨_, Q, rfl, l7, Lib.hid ⟨HQ.out.1, by rw [HQ.out.2, HU.out, HB.out.2, Dc.val_zeros_back]; exact HQV.out⟩, r7, hS.1, hS.2.1, hS.2.2.1, hS.2.2.2⟩
                refine AllReadyH.cons rfl (fun Kc hKc => ?_) AllReadyH.nil
                have l8 := hS.2.2.2.lt
                (try have hne := Nat.ne_of_lt r7.lt)
                refine st_of rfl (wp_allocA zero_num rfl (d := some 10) rfl (fun W1 a8 hb => ?_))
                (try replace r7 := r7.keep hb)
                have r8 : Row24 W1 _ (List.replicate 24 0) := ⟨a8, rfl⟩
                clear a8
                refine hKc.out _ _ ⟨below_step hS.1 hb, hS.2.1.keep hb, hS.2.2.1.keep hb, hS.2.2.2.keep hb⟩ (fun hS => ?_)
                clear hKc Kc
                simp only [Act.put, List.setIfInBounds_toArray, List.set_cons_zero, List.set_cons_succ]
                refine wpAnyH_ready (rs := [13]) (by kernel_rfl) (by simp) ?_
                refine AllReadyH.cons rfl (fun Kc hKc => ?_) AllReadyH.nil
                go_simp
                refine (pover_any u B (by rw [← bts_length, HU.out, List.length_append, bts_length, List.length_replicate]; omega) (by rw [HU.out, List.all_append, HD.out, Dc.zeros_dig]; rfl) HB.out.1 (by rw [HB.out.2]; exact HY.out.1) (by rw [HB.out.2]; exact HY.out.2) _).mono ?_
                rintro e W1 ⟨⟨Q, R, rfl, hQ, hR, hQv, hRv⟩, hb⟩
                have HQ : Hid _ := Lib.hid (And.intro hQ hQv)
                have hQl := hQ.len
                have hRl := hR.len
                clear hQ hR hQv hRv
                (try replace r7 := r7.keep hb)
                (try replace r8 := r8.keep hb)
                refine hKc.out _ _ ⟨below_step hS.1 hb, hS.2.1.keep hb, hS.2.2.1.keep hb, hS.2.2.2.keep hb⟩ (fun hS => ?_)
                clear hKc Kc
                refine takeH (i := 14) (d := some 35) (v := ?v49) rfl rfl (by kernel_rfl) (by kernel_rfl) (by kernel_rfl) (fun _ _ _ h => h) (Or.inl ⟨by rfl, ?h49⟩) hS ?_
                case h49 => intro W _; go_simp; try with_reducible rfl
                simp only [Act.put, List.setIfInBounds_toArray, List.set_cons_zero, List.set_cons_succ]
                refine takeH (i := 15) (d := some 50) (v := ?v50) rfl rfl (by kernel_rfl) (by kernel_rfl) (by kernel_rfl) (fun _ _ _ h => h) (Or.inl ⟨by rfl, ?h50⟩) hS ?_
                case h50 => intro W _; go_simp; try with_reducible rfl
                simp only [Act.put, List.setIfInBounds_toArray, List.set_cons_zero, List.set_cons_succ]
                refine takeH (i := 16) (d := some 51) (v := ?v51) rfl rfl (by kernel_rfl) (by kernel_rfl) (by kernel_rfl) (fun _ _ _ h => h) (Or.inl ⟨by rfl, ?h51⟩) hS ?_
                case h51 => intro W _; go_simp; try with_reducible rfl
                simp only [Act.put, List.setIfInBounds_toArray, List.set_cons_zero, List.set_cons_succ]
                refine wpAnyH_ready (rs := [19]) (by kernel_rfl) (by simp) ?_
                refine AllReadyH.cons rfl (fun Kc hKc => ?_) AllReadyH.nil
                refine st_of rfl (wp_storeA r7.blk _ _ rfl rfl rfl (agg_num hQl) (by rw [numV_size, numV_size, hQl]; rfl) (numV_oneL Q) rfl (fun W1 a7 hg => ?_))
                replace r8 := r8.far hg hne.symm
                replace r7 : Row24 W1 _ Q := ⟨a7, hQl⟩
                clear a7
                refine hKc.out _ _ ⟨below_far hS.1 hS.1.size (by omega) hg, hS.2.1.far hg (by omega), hS.2.2.1.far hg (by omega), hS.2.2.2.far hg (by omega)⟩ (fun hS => ?_)
                clear hKc Kc
                refine wpAnyH_ready (rs := [20]) (by kernel_rfl) (by simp) ?_
                refine AllReadyH.cons rfl (fun Kc hKc => ?_) AllReadyH.nil
                refine st_of rfl (wp_storeA r8.blk _ _ rfl rfl rfl (agg_num hRl) (by rw [numV_size, numV_size, hRl]; rfl) (numV_oneL R) rfl (fun W1 a8 hg => ?_))
                replace r7 := r7.far hg hne
                replace r8 : Row24 W1 _ R := ⟨a8, hRl⟩
                clear a8
                refine hKc.out _ _ ⟨below_far hS.1 hS.1.size (by omega) hg, hS.2.1.far hg (by omega), hS.2.2.1.far hg (by omega), hS.2.2.2.far hg (by omega)⟩ (fun hS => ?_)
                clear hKc Kc
                refine wpAnyH_done (by kernel_rfl) ?_ _
                go_wp2_with fail
                go_meet
                exact ⟨_, Q, rfl, l7, Lib.hid ⟨HQ.out.1, by rw [HQ.out.2, HU.out, HB.out.2, Dc.val_zeros_back]; exact HQV.out⟩, r7, hS.1, hS.2.1, hS.2.2.1, hS.2.2.2⟩
            refine AllReadyH.cons rfl (fun Kc hKc => ?_) AllReadyH.nil
            have l8 := hS.2.2.2.lt
            (try have hne := Nat.ne_of_lt r7.lt)
            refine st_of rfl (wp_allocA zero_num rfl (d := some 10) rfl (fun W1 a8 hb => ?_))
            (try replace r7 := r7.keep hb)
            have r8 : Row24 W1 _ (List.replicate 24 0) := ⟨a8, rfl⟩
            clear a8
            refine hKc.out _ _ ⟨below_step hS.1 hb, hS.2.1.keep hb, hS.2.2.1.keep hb, hS.2.2.2.keep hb⟩ (fun hS => ?_)
            clear hKc Kc
            simp only [Act.put, List.setIfInBounds_toArray, List.set_cons_zero, List.set_cons_succ]
            refine wpAnyH_ready (rs := [13, 17]) (by kernel_rfl) (by simp) ?_
            refine AllReadyH.cons rfl (fun Kc hKc => ?_) ?_
            ·   skip
                go_simp
                refine (pover_any u B (by rw [← bts_length, HU.out, List.length_append, bts_length, List.length_replicate]; omega) (by rw [HU.out, List.all_append, HD.out, Dc.zeros_dig]; rfl) HB.out.1 (by rw [HB.out.2]; exact HY.out.1) (by rw [HB.out.2]; exact HY.out.2) _).mono ?_
                rintro e W1 ⟨⟨Q, R, rfl, hQ, hR, hQv, hRv⟩, hb⟩
                have HQ : Hid _ := Lib.hid (And.intro hQ hQv)
                have hQl := hQ.len
                have hRl := hR.len
                clear hQ hR hQv hRv
                (try replace r7 := r7.keep hb)
                (try replace r8 := r8.keep hb)
                refine hKc.out _ _ ⟨below_step hS.1 hb, hS.2.1.keep hb, hS.2.2.1.keep hb, hS.2.2.2.keep hb⟩ (fun hS => ?_)
                clear hKc Kc
                refine takeH (i := 14) (d := some 35) (v := ?v52) rfl rfl (by kernel_rfl) (by kernel_rfl) (by kernel_rfl) (fun _ _ _ h => h) (Or.inl ⟨by rfl, ?h52⟩) hS ?_
                case h52 => intro W _; go_simp; try with_reducible rfl
                simp only [Act.put, List.setIfInBounds_toArray, List.set_cons_zero, List.set_cons_succ]
                refine takeH (i := 15) (d := some 50) (v := ?v53) rfl rfl (by kernel_rfl) (by kernel_rfl) (by kernel_rfl) (fun _ _ _ h => h) (Or.inl ⟨by rfl, ?h53⟩) hS ?_
                case h53 => intro W _; go_simp; try with_reducible rfl
                simp only [Act.put, List.setIfInBounds_toArray, List.set_cons_zero, List.set_cons_succ]
                refine takeH (i := 16) (d := some 51) (v := ?v54) rfl rfl (by kernel_rfl) (by kernel_rfl) (by kernel_rfl) (fun _ _ _ h => h) (Or.inl ⟨by rfl, ?h54⟩) hS ?_
                case h54 => intro W _; go_simp; try with_reducible rfl
                simp only [Act.put, List.setIfInBounds_toArray, List.set_cons_zero, List.set_cons_succ]
                refine wpAnyH_ready (rs := [17]) (by kernel_rfl) (by simp) ?_
                refine AllReadyH.cons rfl (fun Kc hKc => ?_) AllReadyH.nil
                have l7 := hS.2.2.2.lt
                (try have hne := (Nat.ne_of_lt r8.lt).symm)
                refine st_of rfl (wp_allocA zero_num rfl (d := some 9) rfl (fun W1 a7 hb => ?_))
                (try replace r8 := r8.keep hb)
                have r7 : Row24 W1 _ (List.replicate 24 0) := ⟨a7, rfl⟩
                clear a7
                refine hKc.out _ _ ⟨below_step hS.1 hb, hS.2.1.keep hb, hS.2.2.1.keep hb, hS.2.2.2.keep hb⟩ (fun hS => ?_)
                clear hKc Kc
                simp only [Act.put, List.setIfInBounds_toArray, List.set_cons_zero, List.set_cons_succ]
                refine wpAnyH_ready (rs := [19]) (by kernel_rfl) (by simp) ?_
                refine AllReadyH.cons rfl (fun Kc hKc => ?_) AllReadyH.nil
                refine st_of rfl (wp_storeA r7.blk _ _ rfl rfl rfl (agg_num hQl) (by rw [numV_size, numV_size, hQl]; rfl) (numV_oneL Q) rfl (fun W1 a7 hg => ?_))
                replace r8 := r8.far hg hne.symm
                replace r7 : Row24 W1 _ Q := ⟨a7, hQl⟩
                clear a7
                refine hKc.out _ _ ⟨below_far hS.1 hS.1.size (by omega) hg, hS.2.1.far hg (by omega), hS.2.2.1.far hg (by omega), hS.2.2.2.far hg (by omega)⟩ (fun hS => ?_)
                clear hKc Kc
                refine wpAnyH_ready (rs := [20]) (by kernel_rfl) (by simp) ?_
                refine AllReadyH.cons rfl (fun Kc hKc => ?_) AllReadyH.nil
                refine st_of rfl (wp_storeA r8.blk _ _ rfl rfl rfl (agg_num hRl) (by rw [numV_size, numV_size, hRl]; rfl) (numV_oneL R) rfl (fun W1 a8 hg => ?_))
                replace r7 := r7.far hg hne
                replace r8 : Row24 W1 _ R := ⟨a8, hRl⟩
                clear a8
                refine hKc.out _ _ ⟨below_far hS.1 hS.1.size (by omega) hg, hS.2.1.far hg (by omega), hS.2.2.1.far hg (by omega), hS.2.2.2.far hg (by omega)⟩ (fun hS => ?_)
                clear hKc Kc
                refine wpAnyH_done (by kernel_rfl) ?_ _
                go_wp2_with fail
                go_meet
                exact ⟨_, Q, rfl, l7, Lib.hid ⟨HQ.out.1, by rw [HQ.out.2, HU.out, HB.out.2, Dc.val_zeros_back]; exact HQV.out⟩, r7, hS.1, hS.2.1, hS.2.2.1, hS.2.2.2⟩
            refine AllReadyH.cons rfl (fun Kc hKc => ?_) AllReadyH.nil
            have l7 := hS.2.2.2.lt
            (try have hne := (Nat.ne_of_lt r8.lt).symm)
            refine st_of rfl (wp_allocA zero_num rfl (d := some 9) rfl (fun W1 a7 hb => ?_))
            (try replace r8 := r8.keep hb)
            have r7 : Row24 W1 _ (List.replicate 24 0) := ⟨a7, rfl⟩
            clear a7
            refine hKc.out _ _ ⟨below_step hS.1 hb, hS.2.1.keep hb, hS.2.2.1.keep hb, hS.2.2.2.keep hb⟩ (fun hS => ?_)
            clear hKc Kc
            simp only [Act.put, List.setIfInBounds_toArray, List.set_cons_zero, List.set_cons_succ]
            refine wpAnyH_ready (rs := [13]) (by kernel_rfl) (by simp) ?_
            refine AllReadyH.cons rfl (fun Kc hKc => ?_) AllReadyH.nil
            go_simp
            refine (pover_any u B (by rw [← bts_length, HU.out, List.length_append, bts_length, List.length_replicate]; omega) (by rw [HU.out, List.all_append, HD.out, Dc.zeros_dig]; rfl) HB.out.1 (by rw [HB.out.2]; exact HY.out.1) (by rw [HB.out.2]; exact HY.out.2) _).mono ?_
            rintro e W1 ⟨⟨Q, R, rfl, hQ, hR, hQv, hRv⟩, hb⟩
            have HQ : Hid _ := Lib.hid (And.intro hQ hQv)
            have hQl := hQ.len
            have hRl := hR.len
            clear hQ hR hQv hRv
            (try replace r7 := r7.keep hb)
            (try replace r8 := r8.keep hb)
            refine hKc.out _ _ ⟨below_step hS.1 hb, hS.2.1.keep hb, hS.2.2.1.keep hb, hS.2.2.2.keep hb⟩ (fun hS => ?_)
            clear hKc Kc
            refine takeH (i := 14) (d := some 35) (v := ?v55) rfl rfl (by kernel_rfl) (by kernel_rfl) (by kernel_rfl) (fun _ _ _ h => h) (Or.inl ⟨by rfl, ?h55⟩) hS ?_
            case h55 => intro W _; go_simp; try with_reducible rfl
            simp only [Act.put, List.setIfInBounds_toArray, List.set_cons_zero, List.set_cons_succ]
            refine takeH (i := 15) (d := some 50) (v := ?v56) rfl rfl (by kernel_rfl) (by kernel_rfl) (by kernel_rfl) (fun _ _ _ h => h) (Or.inl ⟨by rfl, ?h56⟩) hS ?_
            case h56 => intro W _; go_simp; try with_reducible rfl
            simp only [Act.put, List.setIfInBounds_toArray, List.set_cons_zero, List.set_cons_succ]
            refine takeH (i := 16) (d := some 51) (v := ?v57) rfl rfl (by kernel_rfl) (by kernel_rfl) (by kernel_rfl) (fun _ _ _ h => h) (Or.inl ⟨by rfl, ?h57⟩) hS ?_
            case h57 => intro W _; go_simp; try with_reducible rfl
            simp only [Act.put, List.setIfInBounds_toArray, List.set_cons_zero, List.set_cons_succ]
            refine wpAnyH_ready (rs := [19]) (by kernel_rfl) (by simp) ?_
            refine AllReadyH.cons rfl (fun Kc hKc => ?_) AllReadyH.nil
            refine st_of rfl (wp_storeA r7.blk _ _ rfl rfl rfl (agg_num hQl) (by rw [numV_size, numV_size, hQl]; rfl) (numV_oneL Q) rfl (fun W1 a7 hg => ?_))
            replace r8 := r8.far hg hne.symm
            replace r7 : Row24 W1 _ Q := ⟨a7, hQl⟩
            clear a7
            refine hKc.out _ _ ⟨below_far hS.1 hS.1.size (by omega) hg, hS.2.1.far hg (by omega), hS.2.2.1.far hg (by omega), hS.2.2.2.far hg (by omega)⟩ (fun hS => ?_)
            clear hKc Kc
            refine wpAnyH_ready (rs := [20]) (by kernel_rfl) (by simp) ?_
            refine AllReadyH.cons rfl (fun Kc hKc => ?_) AllReadyH.nil
            refine st_of rfl (wp_storeA r8.blk _ _ rfl rfl rfl (agg_num hRl) (by rw [numV_size, numV_size, hRl]; rfl) (numV_oneL R) rfl (fun W1 a8 hg => ?_))
            replace r7 := r7.far hg hne
            replace r8 : Row24 W1 _ R := ⟨a8, hRl⟩
            clear a8
            refine hKc.out _ _ ⟨below_far hS.1 hS.1.size (by omega) hg, hS.2.1.far hg (by omega), hS.2.2.1.far hg (by omega), hS.2.2.2.far hg (by omega)⟩ (fun hS => ?_)
            clear hKc Kc
            refine wpAnyH_done (by kernel_rfl) ?_ _
            go_wp2_with fail
            go_meet
            exact ⟨_, Q, rfl, l7, Lib.hid ⟨HQ.out.1, by rw [HQ.out.2, HU.out, HB.out.2, Dc.val_zeros_back]; exact HQV.out⟩, r7, hS.1, hS.2.1, hS.2.2.1, hS.2.2.2⟩
        refine AllReadyH.cons rfl (fun Kc hKc => ?_) ?_
        ·   skip
            have l7 := hS.2.2.2.lt
            (try have hne := (Nat.ne_of_lt r8.lt).symm)
            refine st_of rfl (wp_allocA zero_num rfl (d := some 9) rfl (fun W1 a7 hb => ?_))
            (try replace r8 := r8.keep hb)
            have r7 : Row24 W1 _ (List.replicate 24 0) := ⟨a7, rfl⟩
            clear a7
            refine hKc.out _ _ ⟨below_step hS.1 hb, hS.2.1.keep hb, hS.2.2.1.keep hb, hS.2.2.2.keep hb⟩ (fun hS => ?_)
            clear hKc Kc
            simp only [Act.put, List.setIfInBounds_toArray, List.set_cons_zero, List.set_cons_succ]
            refine wpAnyH_ready (rs := [12, 18]) (by kernel_rfl) (by simp) ?_
            refine AllReadyH.cons rfl (fun Kc hKc => ?_) ?_
            ·   skip
                go_simp
                refine (C2.out _).mono ?_
                rintro e W1 ⟨⟨B, rfl, hB3⟩, hb⟩
                have HB : Hid _ := Lib.hid hB3
                clear hB3
                (try replace r7 := r7.keep hb)
                (try replace r8 := r8.keep hb)
                refine hKc.out _ _ ⟨below_step hS.1 hb, hS.2.1.keep hb, hS.2.2.1.keep hb, hS.2.2.2.keep hb⟩ (fun hS => ?_)
                clear hKc Kc
                refine wpAnyH_ready (rs := [13, 18]) (by kernel_rfl) (by simp) ?_
                refine AllReadyH.cons rfl (fun Kc hKc => ?_) ?_
                ·   skip
                    go_simp
                    refine (pover_any u B (by rw [← bts_length, HU.out, List.length_append, bts_length, List.length_replicate]; omega) (by rw [HU.out, List.all_append, HD.out, Dc.zeros_dig]; rfl) HB.out.1 (by rw [HB.out.2]; exact HY.out.1) (by rw [HB.out.2]; exact HY.out.2) _).mono ?_
                    rintro e W1 ⟨⟨Q, R, rfl, hQ, hR, hQv, hRv⟩, hb⟩
                    have HQ : Hid _ := Lib.hid (And.intro hQ hQv)
                    have hQl := hQ.len
                    have hRl := hR.len
                    clear hQ hR hQv hRv
                    (try replace r7 := r7.keep hb)
                    (try replace r8 := r8.keep hb)
                    refine hKc.out _ _ ⟨below_step hS.1 hb, hS.2.1.keep hb, hS.2.2.1.keep hb, hS.2.2.2.keep hb⟩ (fun hS => ?_)
                    clear hKc Kc
                    refine takeH (i := 14) (d := some 35) (v := ?v58) rfl rfl (by kernel_rfl) (by kernel_rfl) (by kernel_rfl) (fun _ _ _ h => h) (Or.inl ⟨by rfl, ?h58⟩) hS ?_
                    case h58 => intro W _; go_simp; try with_reducible rfl
                    simp only [Act.put, List.setIfInBounds_toArray, List.set_cons_zero, List.set_cons_succ]
                    refine takeH (i := 15) (d := some 50) (v := ?v59) rfl rfl (by kernel_rfl) (by kernel_rfl) (by kernel_rfl) (fun _ _ _ h => h) (Or.inl ⟨by rfl, ?h59⟩) hS ?_
                    case h59 => intro W _; go_simp; try with_reducible rfl
                    simp only [Act.put, List.setIfInBounds_toArray, List.set_cons_zero, List.set_cons_succ]
                    refine takeH (i := 16) (d := some 51) (v := ?v60) rfl rfl (by kernel_rfl) (by kernel_rfl) (by kernel_rfl) (fun _ _ _ h => h) (Or.inl ⟨by rfl, ?h60⟩) hS ?_
                    case h60 => intro W _; go_simp; try with_reducible rfl
                    simp only [Act.put, List.setIfInBounds_toArray, List.set_cons_zero, List.set_cons_succ]
                    refine wpAnyH_ready (rs := [18]) (by kernel_rfl) (by simp) ?_
                    refine AllReadyH.cons rfl (fun Kc hKc => ?_) AllReadyH.nil
                    have l8 := hS.2.2.2.lt
                    (try have hne := Nat.ne_of_lt r7.lt)
                    refine st_of rfl (wp_allocA zero_num rfl (d := some 10) rfl (fun W1 a8 hb => ?_))
                    (try replace r7 := r7.keep hb)
                    have r8 : Row24 W1 _ (List.replicate 24 0) := ⟨a8, rfl⟩
                    clear a8
                    refine hKc.out _ _ ⟨below_step hS.1 hb, hS.2.1.keep hb, hS.2.2.1.keep hb, hS.2.2.2.keep hb⟩ (fun hS => ?_)
                    clear hKc Kc
                    simp only [Act.put, List.setIfInBounds_toArray, List.set_cons_zero, List.set_cons_succ]
                    refine wpAnyH_ready (rs := [19]) (by kernel_rfl) (by simp) ?_
                    refine AllReadyH.cons rfl (fun Kc hKc => ?_) AllReadyH.nil
                    refine st_of rfl (wp_storeA r7.blk _ _ rfl rfl rfl (agg_num hQl) (by rw [numV_size, numV_size, hQl]; rfl) (numV_oneL Q) rfl (fun W1 a7 hg => ?_))
                    replace r8 := r8.far hg hne.symm
                    replace r7 : Row24 W1 _ Q := ⟨a7, hQl⟩
                    clear a7
                    refine hKc.out _ _ ⟨below_far hS.1 hS.1.size (by omega) hg, hS.2.1.far hg (by omega), hS.2.2.1.far hg (by omega), hS.2.2.2.far hg (by omega)⟩ (fun hS => ?_)
                    clear hKc Kc
                    refine wpAnyH_ready (rs := [20]) (by kernel_rfl) (by simp) ?_
                    refine AllReadyH.cons rfl (fun Kc hKc => ?_) AllReadyH.nil
                    refine st_of rfl (wp_storeA r8.blk _ _ rfl rfl rfl (agg_num hRl) (by rw [numV_size, numV_size, hRl]; rfl) (numV_oneL R) rfl (fun W1 a8 hg => ?_))
                    replace r7 := r7.far hg hne
                    replace r8 : Row24 W1 _ R := ⟨a8, hRl⟩
                    clear a8
                    refine hKc.out _ _ ⟨below_far hS.1 hS.1.size (by omega) hg, hS.2.1.far hg (by omega), hS.2.2.1.far hg (by omega), hS.2.2.2.far hg (by omega)⟩ (fun hS => ?_)
                    clear hKc Kc
                    refine wpAnyH_done (by kernel_rfl) ?_ _
                    go_wp2_with fail
                    go_meet
                    exact ⟨_, Q, rfl, l7, Lib.hid ⟨HQ.out.1, by rw [HQ.out.2, HU.out, HB.out.2, Dc.val_zeros_back]; exact HQV.out⟩, r7, hS.1, hS.2.1, hS.2.2.1, hS.2.2.2⟩
                refine AllReadyH.cons rfl (fun Kc hKc => ?_) AllReadyH.nil
                have l8 := hS.2.2.2.lt
                (try have hne := Nat.ne_of_lt r7.lt)
                refine st_of rfl (wp_allocA zero_num rfl (d := some 10) rfl (fun W1 a8 hb => ?_))
                (try replace r7 := r7.keep hb)
                have r8 : Row24 W1 _ (List.replicate 24 0) := ⟨a8, rfl⟩
                clear a8
                refine hKc.out _ _ ⟨below_step hS.1 hb, hS.2.1.keep hb, hS.2.2.1.keep hb, hS.2.2.2.keep hb⟩ (fun hS => ?_)
                clear hKc Kc
                simp only [Act.put, List.setIfInBounds_toArray, List.set_cons_zero, List.set_cons_succ]
                refine wpAnyH_ready (rs := [13]) (by kernel_rfl) (by simp) ?_
                refine AllReadyH.cons rfl (fun Kc hKc => ?_) AllReadyH.nil
                go_simp
                refine (pover_any u B (by rw [← bts_length, HU.out, List.length_append, bts_length, List.length_replicate]; omega) (by rw [HU.out, List.all_append, HD.out, Dc.zeros_dig]; rfl) HB.out.1 (by rw [HB.out.2]; exact HY.out.1) (by rw [HB.out.2]; exact HY.out.2) _).mono ?_
                rintro e W1 ⟨⟨Q, R, rfl, hQ, hR, hQv, hRv⟩, hb⟩
                have HQ : Hid _ := Lib.hid (And.intro hQ hQv)
                have hQl := hQ.len
                have hRl := hR.len
                clear hQ hR hQv hRv
                (try replace r7 := r7.keep hb)
                (try replace r8 := r8.keep hb)
                refine hKc.out _ _ ⟨below_step hS.1 hb, hS.2.1.keep hb, hS.2.2.1.keep hb, hS.2.2.2.keep hb⟩ (fun hS => ?_)
                clear hKc Kc
                refine takeH (i := 14) (d := some 35) (v := ?v61) rfl rfl (by kernel_rfl) (by kernel_rfl) (by kernel_rfl) (fun _ _ _ h => h) (Or.inl ⟨by rfl, ?h61⟩) hS ?_
                case h61 => intro W _; go_simp; try with_reducible rfl
                simp only [Act.put, List.setIfInBounds_toArray, List.set_cons_zero, List.set_cons_succ]
                refine takeH (i := 15) (d := some 50) (v := ?v62) rfl rfl (by kernel_rfl) (by kernel_rfl) (by kernel_rfl) (fun _ _ _ h => h) (Or.inl ⟨by rfl, ?h62⟩) hS ?_
                case h62 => intro W _; go_simp; try with_reducible rfl
                simp only [Act.put, List.setIfInBounds_toArray, List.set_cons_zero, List.set_cons_succ]
                refine takeH (i := 16) (d := some 51) (v := ?v63) rfl rfl (by kernel_rfl) (by kernel_rfl) (by kernel_rfl) (fun _ _ _ h => h) (Or.inl ⟨by rfl, ?h63⟩) hS ?_
                case h63 => intro W _; go_simp; try with_reducible rfl
                simp only [Act.put, List.setIfInBounds_toArray, List.set_cons_zero, List.set_cons_succ]
                refine wpAnyH_ready (rs := [19]) (by kernel_rfl) (by simp) ?_
                refine AllReadyH.cons rfl (fun Kc hKc => ?_) AllReadyH.nil
                refine st_of rfl (wp_storeA r7.blk _ _ rfl rfl rfl (agg_num hQl) (by rw [numV_size, numV_size, hQl]; rfl) (numV_oneL Q) rfl (fun W1 a7 hg => ?_))
                replace r8 := r8.far hg hne.symm
                replace r7 : Row24 W1 _ Q := ⟨a7, hQl⟩
                clear a7
                refine hKc.out _ _ ⟨below_far hS.1 hS.1.size (by omega) hg, hS.2.1.far hg (by omega), hS.2.2.1.far hg (by omega), hS.2.2.2.far hg (by omega)⟩ (fun hS => ?_)
                clear hKc Kc
                refine wpAnyH_ready (rs := [20]) (by kernel_rfl) (by simp) ?_
                refine AllReadyH.cons rfl (fun Kc hKc => ?_) AllReadyH.nil
                refine st_of rfl (wp_storeA r8.blk _ _ rfl rfl rfl (agg_num hRl) (by rw [numV_size, numV_size, hRl]; rfl) (numV_oneL R) rfl (fun W1 a8 hg => ?_))
                replace r7 := r7.far hg hne
                replace r8 : Row24 W1 _ R := ⟨a8, hRl⟩
                clear a8
                refine hKc.out _ _ ⟨below_far hS.1 hS.1.size (by omega) hg, hS.2.1.far hg (by omega), hS.2.2.1.far hg (by omega), hS.2.2.2.far hg (by omega)⟩ (fun hS => ?_)
                clear hKc Kc
                refine wpAnyH_done (by kernel_rfl) ?_ _
                go_wp2_with fail
                go_meet
                exact ⟨_, Q, rfl, l7, Lib.hid ⟨HQ.out.1, by rw [HQ.out.2, HU.out, HB.out.2, Dc.val_zeros_back]; exact HQV.out⟩, r7, hS.1, hS.2.1, hS.2.2.1, hS.2.2.2⟩
            refine AllReadyH.cons rfl (fun Kc hKc => ?_) AllReadyH.nil
            have l8 := hS.2.2.2.lt
            (try have hne := Nat.ne_of_lt r7.lt)
            refine st_of rfl (wp_allocA zero_num rfl (d := some 10) rfl (fun W1 a8 hb => ?_))
            (try replace r7 := r7.keep hb)
            have r8 : Row24 W1 _ (List.replicate 24 0) := ⟨a8, rfl⟩
            clear a8
            refine hKc.out _ _ ⟨below_step hS.1 hb, hS.2.1.keep hb, hS.2.2.1.keep hb, hS.2.2.2.keep hb⟩ (fun hS => ?_)
            clear hKc Kc
            simp only [Act.put, List.setIfInBounds_toArray, List.set_cons_zero, List.set_cons_succ]
            refine wpAnyH_ready (rs := [12]) (by kernel_rfl) (by simp) ?_
            refine AllReadyH.cons rfl (fun Kc hKc => ?_) AllReadyH.nil
            go_simp
            refine (C2.out _).mono ?_
            rintro e W1 ⟨⟨B, rfl, hB3⟩, hb⟩
            have HB : Hid _ := Lib.hid hB3
            clear hB3
            (try replace r7 := r7.keep hb)
            (try replace r8 := r8.keep hb)
            refine hKc.out _ _ ⟨below_step hS.1 hb, hS.2.1.keep hb, hS.2.2.1.keep hb, hS.2.2.2.keep hb⟩ (fun hS => ?_)
            clear hKc Kc
            refine wpAnyH_ready (rs := [13]) (by kernel_rfl) (by simp) ?_
            refine AllReadyH.cons rfl (fun Kc hKc => ?_) AllReadyH.nil
            go_simp
            refine (pover_any u B (by rw [← bts_length, HU.out, List.length_append, bts_length, List.length_replicate]; omega) (by rw [HU.out, List.all_append, HD.out, Dc.zeros_dig]; rfl) HB.out.1 (by rw [HB.out.2]; exact HY.out.1) (by rw [HB.out.2]; exact HY.out.2) _).mono ?_
            rintro e W1 ⟨⟨Q, R, rfl, hQ, hR, hQv, hRv⟩, hb⟩
            have HQ : Hid _ := Lib.hid (And.intro hQ hQv)
            have hQl := hQ.len
            have hRl := hR.len
            clear hQ hR hQv hRv
            (try replace r7 := r7.keep hb)
            (try replace r8 := r8.keep hb)
            refine hKc.out _ _ ⟨below_step hS.1 hb, hS.2.1.keep hb, hS.2.2.1.keep hb, hS.2.2.2.keep hb⟩ (fun hS => ?_)
            clear hKc Kc
            refine takeH (i := 14) (d := some 35) (v := ?v64) rfl rfl (by kernel_rfl) (by kernel_rfl) (by kernel_rfl) (fun _ _ _ h => h) (Or.inl ⟨by rfl, ?h64⟩) hS ?_
            case h64 => intro W _; go_simp; try with_reducible rfl
            simp only [Act.put, List.setIfInBounds_toArray, List.set_cons_zero, List.set_cons_succ]
            refine takeH (i := 15) (d := some 50) (v := ?v65) rfl rfl (by kernel_rfl) (by kernel_rfl) (by kernel_rfl) (fun _ _ _ h => h) (Or.inl ⟨by rfl, ?h65⟩) hS ?_
            case h65 => intro W _; go_simp; try with_reducible rfl
            simp only [Act.put, List.setIfInBounds_toArray, List.set_cons_zero, List.set_cons_succ]
            refine takeH (i := 16) (d := some 51) (v := ?v66) rfl rfl (by kernel_rfl) (by kernel_rfl) (by kernel_rfl) (fun _ _ _ h => h) (Or.inl ⟨by rfl, ?h66⟩) hS ?_
            case h66 => intro W _; go_simp; try with_reducible rfl
            simp only [Act.put, List.setIfInBounds_toArray, List.set_cons_zero, List.set_cons_succ]
            refine wpAnyH_ready (rs := [19]) (by kernel_rfl) (by simp) ?_
            refine AllReadyH.cons rfl (fun Kc hKc => ?_) AllReadyH.nil
            refine st_of rfl (wp_storeA r7.blk _ _ rfl rfl rfl (agg_num hQl) (by rw [numV_size, numV_size, hQl]; rfl) (numV_oneL Q) rfl (fun W1 a7 hg => ?_))
            replace r8 := r8.far hg hne.symm
            replace r7 : Row24 W1 _ Q := ⟨a7, hQl⟩
            clear a7
            refine hKc.out _ _ ⟨below_far hS.1 hS.1.size (by omega) hg, hS.2.1.far hg (by omega), hS.2.2.1.far hg (by omega), hS.2.2.2.far hg (by omega)⟩ (fun hS => ?_)
            clear hKc Kc
            refine wpAnyH_ready (rs := [20]) (by kernel_rfl) (by simp) ?_
            refine AllReadyH.cons rfl (fun Kc hKc => ?_) AllReadyH.nil
            refine st_of rfl (wp_storeA r8.blk _ _ rfl rfl rfl (agg_num hRl) (by rw [numV_size, numV_size, hRl]; rfl) (numV_oneL R) rfl (fun W1 a8 hg => ?_))
            replace r7 := r7.far hg hne
            replace r8 : Row24 W1 _ R := ⟨a8, hRl⟩
            clear a8
            refine hKc.out _ _ ⟨below_far hS.1 hS.1.size (by omega) hg, hS.2.1.far hg (by omega), hS.2.2.1.far hg (by omega), hS.2.2.2.far hg (by omega)⟩ (fun hS => ?_)
            clear hKc Kc
            refine wpAnyH_done (by kernel_rfl) ?_ _
            go_wp2_with fail
            go_meet
            exact ⟨_, Q, rfl, l7, Lib.hid ⟨HQ.out.1, by rw [HQ.out.2, HU.out, HB.out.2, Dc.val_zeros_back]; exact HQV.out⟩, r7, hS.1, hS.2.1, hS.2.2.1, hS.2.2.2⟩
        refine AllReadyH.cons rfl (fun Kc hKc => ?_) AllReadyH.nil
        have l8 := hS.2.2.2.lt
        (try have hne := Nat.ne_of_lt r7.lt)
        refine st_of rfl (wp_allocA zero_num rfl (d := some 10) rfl (fun W1 a8 hb => ?_))
        (try replace r7 := r7.keep hb)
        have r8 : Row24 W1 _ (List.replicate 24 0) := ⟨a8, rfl⟩
        clear a8
        refine hKc.out _ _ ⟨below_step hS.1 hb, hS.2.1.keep hb, hS.2.2.1.keep hb, hS.2.2.2.keep hb⟩ (fun hS => ?_)
        clear hKc Kc
        simp only [Act.put, List.setIfInBounds_toArray, List.set_cons_zero, List.set_cons_succ]
        refine wpAnyH_ready (rs := [12, 17]) (by kernel_rfl) (by simp) ?_
        refine AllReadyH.cons rfl (fun Kc hKc => ?_) ?_
        ·   skip
            go_simp
            refine (C2.out _).mono ?_
            rintro e W1 ⟨⟨B, rfl, hB3⟩, hb⟩
            have HB : Hid _ := Lib.hid hB3
            clear hB3
            (try replace r7 := r7.keep hb)
            (try replace r8 := r8.keep hb)
            refine hKc.out _ _ ⟨below_step hS.1 hb, hS.2.1.keep hb, hS.2.2.1.keep hb, hS.2.2.2.keep hb⟩ (fun hS => ?_)
            clear hKc Kc
            refine wpAnyH_ready (rs := [13, 17]) (by kernel_rfl) (by simp) ?_
            refine AllReadyH.cons rfl (fun Kc hKc => ?_) ?_
            ·   skip
                go_simp
                refine (pover_any u B (by rw [← bts_length, HU.out, List.length_append, bts_length, List.length_replicate]; omega) (by rw [HU.out, List.all_append, HD.out, Dc.zeros_dig]; rfl) HB.out.1 (by rw [HB.out.2]; exact HY.out.1) (by rw [HB.out.2]; exact HY.out.2) _).mono ?_
                rintro e W1 ⟨⟨Q, R, rfl, hQ, hR, hQv, hRv⟩, hb⟩
                have HQ : Hid _ := Lib.hid (And.intro hQ hQv)
                have hQl := hQ.len
                have hRl := hR.len
                clear hQ hR hQv hRv
                (try replace r7 := r7.keep hb)
                (try replace r8 := r8.keep hb)
                refine hKc.out _ _ ⟨below_step hS.1 hb, hS.2.1.keep hb, hS.2.2.1.keep hb, hS.2.2.2.keep hb⟩ (fun hS => ?_)
                clear hKc Kc
                refine takeH (i := 14) (d := some 35) (v := ?v67) rfl rfl (by kernel_rfl) (by kernel_rfl) (by kernel_rfl) (fun _ _ _ h => h) (Or.inl ⟨by rfl, ?h67⟩) hS ?_
                case h67 => intro W _; go_simp; try with_reducible rfl
                simp only [Act.put, List.setIfInBounds_toArray, List.set_cons_zero, List.set_cons_succ]
                refine takeH (i := 15) (d := some 50) (v := ?v68) rfl rfl (by kernel_rfl) (by kernel_rfl) (by kernel_rfl) (fun _ _ _ h => h) (Or.inl ⟨by rfl, ?h68⟩) hS ?_
                case h68 => intro W _; go_simp; try with_reducible rfl
                simp only [Act.put, List.setIfInBounds_toArray, List.set_cons_zero, List.set_cons_succ]
                refine takeH (i := 16) (d := some 51) (v := ?v69) rfl rfl (by kernel_rfl) (by kernel_rfl) (by kernel_rfl) (fun _ _ _ h => h) (Or.inl ⟨by rfl, ?h69⟩) hS ?_
                case h69 => intro W _; go_simp; try with_reducible rfl
                simp only [Act.put, List.setIfInBounds_toArray, List.set_cons_zero, List.set_cons_succ]
                refine wpAnyH_ready (rs := [17]) (by kernel_rfl) (by simp) ?_
                refine AllReadyH.cons rfl (fun Kc hKc => ?_) AllReadyH.nil
                have l7 := hS.2.2.2.lt
                (try have hne := (Nat.ne_of_lt r8.lt).symm)
                refine st_of rfl (wp_allocA zero_num rfl (d := some 9) rfl (fun W1 a7 hb => ?_))
                (try replace r8 := r8.keep hb)
                have r7 : Row24 W1 _ (List.replicate 24 0) := ⟨a7, rfl⟩
                clear a7
                refine hKc.out _ _ ⟨below_step hS.1 hb, hS.2.1.keep hb, hS.2.2.1.keep hb, hS.2.2.2.keep hb⟩ (fun hS => ?_)
                clear hKc Kc
                simp only [Act.put, List.setIfInBounds_toArray, List.set_cons_zero, List.set_cons_succ]
                refine wpAnyH_ready (rs := [19]) (by kernel_rfl) (by simp) ?_
                refine AllReadyH.cons rfl (fun Kc hKc => ?_) AllReadyH.nil
                refine st_of rfl (wp_storeA r7.blk _ _ rfl rfl rfl (agg_num hQl) (by rw [numV_size, numV_size, hQl]; rfl) (numV_oneL Q) rfl (fun W1 a7 hg => ?_))
                replace r8 := r8.far hg hne.symm
                replace r7 : Row24 W1 _ Q := ⟨a7, hQl⟩
                clear a7
                refine hKc.out _ _ ⟨below_far hS.1 hS.1.size (by omega) hg, hS.2.1.far hg (by omega), hS.2.2.1.far hg (by omega), hS.2.2.2.far hg (by omega)⟩ (fun hS => ?_)
                clear hKc Kc
                refine wpAnyH_ready (rs := [20]) (by kernel_rfl) (by simp) ?_
                refine AllReadyH.cons rfl (fun Kc hKc => ?_) AllReadyH.nil
                refine st_of rfl (wp_storeA r8.blk _ _ rfl rfl rfl (agg_num hRl) (by rw [numV_size, numV_size, hRl]; rfl) (numV_oneL R) rfl (fun W1 a8 hg => ?_))
                replace r7 := r7.far hg hne
                replace r8 : Row24 W1 _ R := ⟨a8, hRl⟩
                clear a8
                refine hKc.out _ _ ⟨below_far hS.1 hS.1.size (by omega) hg, hS.2.1.far hg (by omega), hS.2.2.1.far hg (by omega), hS.2.2.2.far hg (by omega)⟩ (fun hS => ?_)
                clear hKc Kc
                refine wpAnyH_done (by kernel_rfl) ?_ _
                go_wp2_with fail
                go_meet
                exact ⟨_, Q, rfl, l7, Lib.hid ⟨HQ.out.1, by rw [HQ.out.2, HU.out, HB.out.2, Dc.val_zeros_back]; exact HQV.out⟩, r7, hS.1, hS.2.1, hS.2.2.1, hS.2.2.2⟩
            refine AllReadyH.cons rfl (fun Kc hKc => ?_) AllReadyH.nil
            have l7 := hS.2.2.2.lt
            (try have hne := (Nat.ne_of_lt r8.lt).symm)
            refine st_of rfl (wp_allocA zero_num rfl (d := some 9) rfl (fun W1 a7 hb => ?_))
            (try replace r8 := r8.keep hb)
            have r7 : Row24 W1 _ (List.replicate 24 0) := ⟨a7, rfl⟩
            clear a7
            refine hKc.out _ _ ⟨below_step hS.1 hb, hS.2.1.keep hb, hS.2.2.1.keep hb, hS.2.2.2.keep hb⟩ (fun hS => ?_)
            clear hKc Kc
            simp only [Act.put, List.setIfInBounds_toArray, List.set_cons_zero, List.set_cons_succ]
            refine wpAnyH_ready (rs := [13]) (by kernel_rfl) (by simp) ?_
            refine AllReadyH.cons rfl (fun Kc hKc => ?_) AllReadyH.nil
            go_simp
            refine (pover_any u B (by rw [← bts_length, HU.out, List.length_append, bts_length, List.length_replicate]; omega) (by rw [HU.out, List.all_append, HD.out, Dc.zeros_dig]; rfl) HB.out.1 (by rw [HB.out.2]; exact HY.out.1) (by rw [HB.out.2]; exact HY.out.2) _).mono ?_
            rintro e W1 ⟨⟨Q, R, rfl, hQ, hR, hQv, hRv⟩, hb⟩
            have HQ : Hid _ := Lib.hid (And.intro hQ hQv)
            have hQl := hQ.len
            have hRl := hR.len
            clear hQ hR hQv hRv
            (try replace r7 := r7.keep hb)
            (try replace r8 := r8.keep hb)
            refine hKc.out _ _ ⟨below_step hS.1 hb, hS.2.1.keep hb, hS.2.2.1.keep hb, hS.2.2.2.keep hb⟩ (fun hS => ?_)
            clear hKc Kc
            refine takeH (i := 14) (d := some 35) (v := ?v70) rfl rfl (by kernel_rfl) (by kernel_rfl) (by kernel_rfl) (fun _ _ _ h => h) (Or.inl ⟨by rfl, ?h70⟩) hS ?_
            case h70 => intro W _; go_simp; try with_reducible rfl
            simp only [Act.put, List.setIfInBounds_toArray, List.set_cons_zero, List.set_cons_succ]
            refine takeH (i := 15) (d := some 50) (v := ?v71) rfl rfl (by kernel_rfl) (by kernel_rfl) (by kernel_rfl) (fun _ _ _ h => h) (Or.inl ⟨by rfl, ?h71⟩) hS ?_
            case h71 => intro W _; go_simp; try with_reducible rfl
            simp only [Act.put, List.setIfInBounds_toArray, List.set_cons_zero, List.set_cons_succ]
            refine takeH (i := 16) (d := some 51) (v := ?v72) rfl rfl (by kernel_rfl) (by kernel_rfl) (by kernel_rfl) (fun _ _ _ h => h) (Or.inl ⟨by rfl, ?h72⟩) hS ?_
            case h72 => intro W _; go_simp; try with_reducible rfl
            simp only [Act.put, List.setIfInBounds_toArray, List.set_cons_zero, List.set_cons_succ]
            refine wpAnyH_ready (rs := [19]) (by kernel_rfl) (by simp) ?_
            refine AllReadyH.cons rfl (fun Kc hKc => ?_) AllReadyH.nil
            refine st_of rfl (wp_storeA r7.blk _ _ rfl rfl rfl (agg_num hQl) (by rw [numV_size, numV_size, hQl]; rfl) (numV_oneL Q) rfl (fun W1 a7 hg => ?_))
            replace r8 := r8.far hg hne.symm
            replace r7 : Row24 W1 _ Q := ⟨a7, hQl⟩
            clear a7
            refine hKc.out _ _ ⟨below_far hS.1 hS.1.size (by omega) hg, hS.2.1.far hg (by omega), hS.2.2.1.far hg (by omega), hS.2.2.2.far hg (by omega)⟩ (fun hS => ?_)
            clear hKc Kc
            refine wpAnyH_ready (rs := [20]) (by kernel_rfl) (by simp) ?_
            refine AllReadyH.cons rfl (fun Kc hKc => ?_) AllReadyH.nil
            refine st_of rfl (wp_storeA r8.blk _ _ rfl rfl rfl (agg_num hRl) (by rw [numV_size, numV_size, hRl]; rfl) (numV_oneL R) rfl (fun W1 a8 hg => ?_))
            replace r7 := r7.far hg hne
            replace r8 : Row24 W1 _ R := ⟨a8, hRl⟩
            clear a8
            refine hKc.out _ _ ⟨below_far hS.1 hS.1.size (by omega) hg, hS.2.1.far hg (by omega), hS.2.2.1.far hg (by omega), hS.2.2.2.far hg (by omega)⟩ (fun hS => ?_)
            clear hKc Kc
            refine wpAnyH_done (by kernel_rfl) ?_ _
            go_wp2_with fail
            go_meet
            exact ⟨_, Q, rfl, l7, Lib.hid ⟨HQ.out.1, by rw [HQ.out.2, HU.out, HB.out.2, Dc.val_zeros_back]; exact HQV.out⟩, r7, hS.1, hS.2.1, hS.2.2.1, hS.2.2.2⟩
        refine AllReadyH.cons rfl (fun Kc hKc => ?_) AllReadyH.nil
        have l7 := hS.2.2.2.lt
        (try have hne := (Nat.ne_of_lt r8.lt).symm)
        refine st_of rfl (wp_allocA zero_num rfl (d := some 9) rfl (fun W1 a7 hb => ?_))
        (try replace r8 := r8.keep hb)
        have r7 : Row24 W1 _ (List.replicate 24 0) := ⟨a7, rfl⟩
        clear a7
        refine hKc.out _ _ ⟨below_step hS.1 hb, hS.2.1.keep hb, hS.2.2.1.keep hb, hS.2.2.2.keep hb⟩ (fun hS => ?_)
        clear hKc Kc
        simp only [Act.put, List.setIfInBounds_toArray, List.set_cons_zero, List.set_cons_succ]
        refine wpAnyH_ready (rs := [12]) (by kernel_rfl) (by simp) ?_
        refine AllReadyH.cons rfl (fun Kc hKc => ?_) AllReadyH.nil
        go_simp
        refine (C2.out _).mono ?_
        rintro e W1 ⟨⟨B, rfl, hB3⟩, hb⟩
        have HB : Hid _ := Lib.hid hB3
        clear hB3
        (try replace r7 := r7.keep hb)
        (try replace r8 := r8.keep hb)
        refine hKc.out _ _ ⟨below_step hS.1 hb, hS.2.1.keep hb, hS.2.2.1.keep hb, hS.2.2.2.keep hb⟩ (fun hS => ?_)
        clear hKc Kc
        refine wpAnyH_ready (rs := [13]) (by kernel_rfl) (by simp) ?_
        refine AllReadyH.cons rfl (fun Kc hKc => ?_) AllReadyH.nil
        go_simp
        refine (pover_any u B (by rw [← bts_length, HU.out, List.length_append, bts_length, List.length_replicate]; omega) (by rw [HU.out, List.all_append, HD.out, Dc.zeros_dig]; rfl) HB.out.1 (by rw [HB.out.2]; exact HY.out.1) (by rw [HB.out.2]; exact HY.out.2) _).mono ?_
        rintro e W1 ⟨⟨Q, R, rfl, hQ, hR, hQv, hRv⟩, hb⟩
        have HQ : Hid _ := Lib.hid (And.intro hQ hQv)
        have hQl := hQ.len
        have hRl := hR.len
        clear hQ hR hQv hRv
        (try replace r7 := r7.keep hb)
        (try replace r8 := r8.keep hb)
        refine hKc.out _ _ ⟨below_step hS.1 hb, hS.2.1.keep hb, hS.2.2.1.keep hb, hS.2.2.2.keep hb⟩ (fun hS => ?_)
        clear hKc Kc
        refine takeH (i := 14) (d := some 35) (v := ?v73) rfl rfl (by kernel_rfl) (by kernel_rfl) (by kernel_rfl) (fun _ _ _ h => h) (Or.inl ⟨by rfl, ?h73⟩) hS ?_
        case h73 => intro W _; go_simp; try with_reducible rfl
        simp only [Act.put, List.setIfInBounds_toArray, List.set_cons_zero, List.set_cons_succ]
        refine takeH (i := 15) (d := some 50) (v := ?v74) rfl rfl (by kernel_rfl) (by kernel_rfl) (by kernel_rfl) (fun _ _ _ h => h) (Or.inl ⟨by rfl, ?h74⟩) hS ?_
        case h74 => intro W _; go_simp; try with_reducible rfl
        simp only [Act.put, List.setIfInBounds_toArray, List.set_cons_zero, List.set_cons_succ]
        refine takeH (i := 16) (d := some 51) (v := ?v75) rfl rfl (by kernel_rfl) (by kernel_rfl) (by kernel_rfl) (fun _ _ _ h => h) (Or.inl ⟨by rfl, ?h75⟩) hS ?_
        case h75 => intro W _; go_simp; try with_reducible rfl
        simp only [Act.put, List.setIfInBounds_toArray, List.set_cons_zero, List.set_cons_succ]
        refine wpAnyH_ready (rs := [19]) (by kernel_rfl) (by simp) ?_
        refine AllReadyH.cons rfl (fun Kc hKc => ?_) AllReadyH.nil
        refine st_of rfl (wp_storeA r7.blk _ _ rfl rfl rfl (agg_num hQl) (by rw [numV_size, numV_size, hQl]; rfl) (numV_oneL Q) rfl (fun W1 a7 hg => ?_))
        replace r8 := r8.far hg hne.symm
        replace r7 : Row24 W1 _ Q := ⟨a7, hQl⟩
        clear a7
        refine hKc.out _ _ ⟨below_far hS.1 hS.1.size (by omega) hg, hS.2.1.far hg (by omega), hS.2.2.1.far hg (by omega), hS.2.2.2.far hg (by omega)⟩ (fun hS => ?_)
        clear hKc Kc
        refine wpAnyH_ready (rs := [20]) (by kernel_rfl) (by simp) ?_
        refine AllReadyH.cons rfl (fun Kc hKc => ?_) AllReadyH.nil
        refine st_of rfl (wp_storeA r8.blk _ _ rfl rfl rfl (agg_num hRl) (by rw [numV_size, numV_size, hRl]; rfl) (numV_oneL R) rfl (fun W1 a8 hg => ?_))
        replace r7 := r7.far hg hne
        replace r8 : Row24 W1 _ R := ⟨a8, hRl⟩
        clear a8
        refine hKc.out _ _ ⟨below_far hS.1 hS.1.size (by omega) hg, hS.2.1.far hg (by omega), hS.2.2.1.far hg (by omega), hS.2.2.2.far hg (by omega)⟩ (fun hS => ?_)
        clear hKc Kc
        refine wpAnyH_done (by kernel_rfl) ?_ _
        go_wp2_with fail
        go_meet
        exact ⟨_, Q, rfl, l7, Lib.hid ⟨HQ.out.1, by rw [HQ.out.2, HU.out, HB.out.2, Dc.val_zeros_back]; exact HQV.out⟩, r7, hS.1, hS.2.1, hS.2.2.1, hS.2.2.2⟩
    refine AllReadyH.cons rfl (fun Kc hKc => ?_) ?_
    ·   skip
        have l7 := hS.2.2.2.lt
        (try have hne := (Nat.ne_of_lt r8.lt).symm)
        refine st_of rfl (wp_allocA zero_num rfl (d := some 9) rfl (fun W1 a7 hb => ?_))
        (try replace r8 := r8.keep hb)
        have r7 : Row24 W1 _ (List.replicate 24 0) := ⟨a7, rfl⟩
        clear a7
        refine hKc.out _ _ ⟨below_step hS.1 hb, hS.2.1.keep hb, hS.2.2.1.keep hb, hS.2.2.2.keep hb⟩ (fun hS => ?_)
        clear hKc Kc
        simp only [Act.put, List.setIfInBounds_toArray, List.set_cons_zero, List.set_cons_succ]
        refine wpAnyH_ready (rs := [8, 18]) (by kernel_rfl) (by simp) ?_
        refine AllReadyH.cons rfl (fun Kc hKc => ?_) ?_
        ·   skip
            go_simp
            refine (C1.out _).mono ?_
            rintro e W1 ⟨⟨z, rfl, hz⟩, hb⟩
            obtain ⟨u, hu⟩ : ∃ u, s ++ z = u := ⟨_, rfl⟩
            have hzl : z.size ≤ 120 := by rw [← bts_length, hz, List.length_replicate]; omega
            have hub : bts u = bts s ++ List.replicate c 48 := by rw [← hu, str_add, hz]
            have HU : Hid _ := Lib.hid hub
            clear hz hub
            (try replace r7 := r7.keep hb)
            (try replace r8 := r8.keep hb)
            refine hKc.out _ _ ⟨below_step hS.1 hb, hS.2.1.keep hb, hS.2.2.1.keep hb, hS.2.2.2.keep hb⟩ (fun hS => ?_)
            clear hKc Kc
            refine takeH (i := 9) (d := some 45) (v := ?v76) rfl rfl (by kernel_rfl) (by kernel_rfl) (by kernel_rfl) (fun _ _ _ h => h) (Or.inl ⟨by rfl, ?h76⟩) hS ?_
            case h76 => intro W _; have hq : ¬ 9223372036854775807 < s.size + z.size := (by omega); go_simp; try with_reducible rfl
            simp only [Act.put, List.setIfInBounds_toArray, List.set_cons_zero, List.set_cons_succ]
            refine wpAnyH_ready (rs := [12, 18]) (by kernel_rfl) (by simp) ?_
            refine AllReadyH.cons rfl (fun Kc hKc => ?_) ?_
            ·   skip
                go_simp
                refine (C2.out _).mono ?_
                rintro e W1 ⟨⟨B, rfl, hB3⟩, hb⟩
                have HB : Hid _ := Lib.hid hB3
                clear hB3
                (try replace r7 := r7.keep hb)
                (try replace r8 := r8.keep hb)
                refine hKc.out _ _ ⟨below_step hS.1 hb, hS.2.1.keep hb, hS.2.2.1.keep hb, hS.2.2.2.keep hb⟩ (fun hS => ?_)
                clear hKc Kc
                refine wpAnyH_ready (rs := [13, 18]) (by kernel_rfl) (by simp) ?_
                refine AllReadyH.cons rfl (fun Kc hKc => ?_) ?_
                ·   skip
                    go_simp
                    refine (pover_any u B (by rw [← bts_length, HU.out, List.length_append, bts_length, List.length_replicate]; omega) (by rw [HU.out, List.all_append, HD.out, Dc.zeros_dig]; rfl) HB.out.1 (by rw [HB.out.2]; exact HY.out.1) (by rw [HB.out.2]; exact HY.out.2) _).mono ?_
                    rintro e W1 ⟨⟨Q, R, rfl, hQ, hR, hQv, hRv⟩, hb⟩
                    have HQ : Hid _ := Lib.hid (And.intro hQ hQv)
                    have hQl := hQ.len
                    have hRl := hR.len
                    clear hQ hR hQv hRv
                    (try replace r7 := r7.keep hb)
                    (try replace r8 := r8.keep hb)
                    refine hKc.out _ _ ⟨below_step hS.1 hb, hS.2.1.keep hb, hS.2.2.1.keep hb, hS.2.2.2.keep hb⟩ (fun hS => ?_)
                    clear hKc Kc
                    refine takeH (i := 14) (d := some 35) (v := ?v77) rfl rfl (by kernel_rfl) (by kernel_rfl) (by kernel_rfl) (fun _ _ _ h => h) (Or.inl ⟨by rfl, ?h77⟩) hS ?_
                    case h77 => intro W _; go_simp; try with_reducible rfl
                    simp only [Act.put, List.setIfInBounds_toArray, List.set_cons_zero, List.set_cons_succ]
                    refine takeH (i := 15) (d := some 50) (v := ?v78) rfl rfl (by kernel_rfl) (by kernel_rfl) (by kernel_rfl) (fun _ _ _ h => h) (Or.inl ⟨by rfl, ?h78⟩) hS ?_
                    case h78 => intro W _; go_simp; try with_reducible rfl
                    simp only [Act.put, List.setIfInBounds_toArray, List.set_cons_zero, List.set_cons_succ]
                    refine takeH (i := 16) (d := some 51) (v := ?v79) rfl rfl (by kernel_rfl) (by kernel_rfl) (by kernel_rfl) (fun _ _ _ h => h) (Or.inl ⟨by rfl, ?h79⟩) hS ?_
                    case h79 => intro W _; go_simp; try with_reducible rfl
                    simp only [Act.put, List.setIfInBounds_toArray, List.set_cons_zero, List.set_cons_succ]
                    refine wpAnyH_ready (rs := [18]) (by kernel_rfl) (by simp) ?_
                    refine AllReadyH.cons rfl (fun Kc hKc => ?_) AllReadyH.nil
                    have l8 := hS.2.2.2.lt
                    (try have hne := Nat.ne_of_lt r7.lt)
                    refine st_of rfl (wp_allocA zero_num rfl (d := some 10) rfl (fun W1 a8 hb => ?_))
                    (try replace r7 := r7.keep hb)
                    have r8 : Row24 W1 _ (List.replicate 24 0) := ⟨a8, rfl⟩
                    clear a8
                    refine hKc.out _ _ ⟨below_step hS.1 hb, hS.2.1.keep hb, hS.2.2.1.keep hb, hS.2.2.2.keep hb⟩ (fun hS => ?_)
                    clear hKc Kc
                    simp only [Act.put, List.setIfInBounds_toArray, List.set_cons_zero, List.set_cons_succ]
                    refine wpAnyH_ready (rs := [19]) (by kernel_rfl) (by simp) ?_
                    refine AllReadyH.cons rfl (fun Kc hKc => ?_) AllReadyH.nil
                    refine st_of rfl (wp_storeA r7.blk _ _ rfl rfl rfl (agg_num hQl) (by rw [numV_size, numV_size, hQl]; rfl) (numV_oneL Q) rfl (fun W1 a7 hg => ?_))
                    replace r8 := r8.far hg hne.symm
                    replace r7 : Row24 W1 _ Q := ⟨a7, hQl⟩
                    clear a7
                    refine hKc.out _ _ ⟨below_far hS.1 hS.1.size (by omega) hg, hS.2.1.far hg (by omega), hS.2.2.1.far hg (by omega), hS.2.2.2.far hg (by omega)⟩ (fun hS => ?_)
                    clear hKc Kc
                    refine wpAnyH_ready (rs := [20]) (by kernel_rfl) (by simp) ?_
                    refine AllReadyH.cons rfl (fun Kc hKc => ?_) AllReadyH.nil
                    refine st_of rfl (wp_storeA r8.blk _ _ rfl rfl rfl (agg_num hRl) (by rw [numV_size, numV_size, hRl]; rfl) (numV_oneL R) rfl (fun W1 a8 hg => ?_))
                    replace r7 := r7.far hg hne
                    replace r8 : Row24 W1 _ R := ⟨a8, hRl⟩
                    clear a8
                    refine hKc.out _ _ ⟨below_far hS.1 hS.1.size (by omega) hg, hS.2.1.far hg (by omega), hS.2.2.1.far hg (by omega), hS.2.2.2.far hg (by omega)⟩ (fun hS => ?_)
                    clear hKc Kc
                    refine wpAnyH_done (by kernel_rfl) ?_ _
                    go_wp2_with fail
                    go_meet
                    exact ⟨_, Q, rfl, l7, Lib.hid ⟨HQ.out.1, by rw [HQ.out.2, HU.out, HB.out.2, Dc.val_zeros_back]; exact HQV.out⟩, r7, hS.1, hS.2.1, hS.2.2.1, hS.2.2.2⟩
                refine AllReadyH.cons rfl (fun Kc hKc => ?_) AllReadyH.nil
                have l8 := hS.2.2.2.lt
                (try have hne := Nat.ne_of_lt r7.lt)
                refine st_of rfl (wp_allocA zero_num rfl (d := some 10) rfl (fun W1 a8 hb => ?_))
                (try replace r7 := r7.keep hb)
                have r8 : Row24 W1 _ (List.replicate 24 0) := ⟨a8, rfl⟩
                clear a8
                refine hKc.out _ _ ⟨below_step hS.1 hb, hS.2.1.keep hb, hS.2.2.1.keep hb, hS.2.2.2.keep hb⟩ (fun hS => ?_)
                clear hKc Kc
                simp only [Act.put, List.setIfInBounds_toArray, List.set_cons_zero, List.set_cons_succ]
                refine wpAnyH_ready (rs := [13]) (by kernel_rfl) (by simp) ?_
                refine AllReadyH.cons rfl (fun Kc hKc => ?_) AllReadyH.nil
                go_simp
                refine (pover_any u B (by rw [← bts_length, HU.out, List.length_append, bts_length, List.length_replicate]; omega) (by rw [HU.out, List.all_append, HD.out, Dc.zeros_dig]; rfl) HB.out.1 (by rw [HB.out.2]; exact HY.out.1) (by rw [HB.out.2]; exact HY.out.2) _).mono ?_
                rintro e W1 ⟨⟨Q, R, rfl, hQ, hR, hQv, hRv⟩, hb⟩
                have HQ : Hid _ := Lib.hid (And.intro hQ hQv)
                have hQl := hQ.len
                have hRl := hR.len
                clear hQ hR hQv hRv
                (try replace r7 := r7.keep hb)
                (try replace r8 := r8.keep hb)
                refine hKc.out _ _ ⟨below_step hS.1 hb, hS.2.1.keep hb, hS.2.2.1.keep hb, hS.2.2.2.keep hb⟩ (fun hS => ?_)
                clear hKc Kc
                refine takeH (i := 14) (d := some 35) (v := ?v80) rfl rfl (by kernel_rfl) (by kernel_rfl) (by kernel_rfl) (fun _ _ _ h => h) (Or.inl ⟨by rfl, ?h80⟩) hS ?_
                case h80 => intro W _; go_simp; try with_reducible rfl
                simp only [Act.put, List.setIfInBounds_toArray, List.set_cons_zero, List.set_cons_succ]
                refine takeH (i := 15) (d := some 50) (v := ?v81) rfl rfl (by kernel_rfl) (by kernel_rfl) (by kernel_rfl) (fun _ _ _ h => h) (Or.inl ⟨by rfl, ?h81⟩) hS ?_
                case h81 => intro W _; go_simp; try with_reducible rfl
                simp only [Act.put, List.setIfInBounds_toArray, List.set_cons_zero, List.set_cons_succ]
                refine takeH (i := 16) (d := some 51) (v := ?v82) rfl rfl (by kernel_rfl) (by kernel_rfl) (by kernel_rfl) (fun _ _ _ h => h) (Or.inl ⟨by rfl, ?h82⟩) hS ?_
                case h82 => intro W _; go_simp; try with_reducible rfl
                simp only [Act.put, List.setIfInBounds_toArray, List.set_cons_zero, List.set_cons_succ]
                refine wpAnyH_ready (rs := [19]) (by kernel_rfl) (by simp) ?_
                refine AllReadyH.cons rfl (fun Kc hKc => ?_) AllReadyH.nil
                refine st_of rfl (wp_storeA r7.blk _ _ rfl rfl rfl (agg_num hQl) (by rw [numV_size, numV_size, hQl]; rfl) (numV_oneL Q) rfl (fun W1 a7 hg => ?_))
                replace r8 := r8.far hg hne.symm
                replace r7 : Row24 W1 _ Q := ⟨a7, hQl⟩
                clear a7
                refine hKc.out _ _ ⟨below_far hS.1 hS.1.size (by omega) hg, hS.2.1.far hg (by omega), hS.2.2.1.far hg (by omega), hS.2.2.2.far hg (by omega)⟩ (fun hS => ?_)
                clear hKc Kc
                refine wpAnyH_ready (rs := [20]) (by kernel_rfl) (by simp) ?_
                refine AllReadyH.cons rfl (fun Kc hKc => ?_) AllReadyH.nil
                refine st_of rfl (wp_storeA r8.blk _ _ rfl rfl rfl (agg_num hRl) (by rw [numV_size, numV_size, hRl]; rfl) (numV_oneL R) rfl (fun W1 a8 hg => ?_))
                replace r7 := r7.far hg hne
                replace r8 : Row24 W1 _ R := ⟨a8, hRl⟩
                clear a8
                refine hKc.out _ _ ⟨below_far hS.1 hS.1.size (by omega) hg, hS.2.1.far hg (by omega), hS.2.2.1.far hg (by omega), hS.2.2.2.far hg (by omega)⟩ (fun hS => ?_)
                clear hKc Kc
                refine wpAnyH_done (by kernel_rfl) ?_ _
                go_wp2_with fail
                go_meet
                exact ⟨_, Q, rfl, l7, Lib.hid ⟨HQ.out.1, by rw [HQ.out.2, HU.out, HB.out.2, Dc.val_zeros_back]; exact HQV.out⟩, r7, hS.1, hS.2.1, hS.2.2.1, hS.2.2.2⟩
            refine AllReadyH.cons rfl (fun Kc hKc => ?_) AllReadyH.nil
            have l8 := hS.2.2.2.lt
            (try have hne := Nat.ne_of_lt r7.lt)
            refine st_of rfl (wp_allocA zero_num rfl (d := some 10) rfl (fun W1 a8 hb => ?_))
            (try replace r7 := r7.keep hb)
            have r8 : Row24 W1 _ (List.replicate 24 0) := ⟨a8, rfl⟩
            clear a8
            refine hKc.out _ _ ⟨below_step hS.1 hb, hS.2.1.keep hb, hS.2.2.1.keep hb, hS.2.2.2.keep hb⟩ (fun hS => ?_)
            clear hKc Kc
            simp only [Act.put, List.setIfInBounds_toArray, List.set_cons_zero, List.set_cons_succ]
            refine wpAnyH_ready (rs := [12]) (by kernel_rfl) (by simp) ?_
            refine AllReadyH.cons rfl (fun Kc hKc => ?_) AllReadyH.nil
            go_simp
            refine (C2.out _).mono ?_
            rintro e W1 ⟨⟨B, rfl, hB3⟩, hb⟩
            have HB : Hid _ := Lib.hid hB3
            clear hB3
            (try replace r7 := r7.keep hb)
            (try replace r8 := r8.keep hb)
            refine hKc.out _ _ ⟨below_step hS.1 hb, hS.2.1.keep hb, hS.2.2.1.keep hb, hS.2.2.2.keep hb⟩ (fun hS => ?_)
            clear hKc Kc
            refine wpAnyH_ready (rs := [13]) (by kernel_rfl) (by simp) ?_
            refine AllReadyH.cons rfl (fun Kc hKc => ?_) AllReadyH.nil
            go_simp
            refine (pover_any u B (by rw [← bts_length, HU.out, List.length_append, bts_length, List.length_replicate]; omega) (by rw [HU.out, List.all_append, HD.out, Dc.zeros_dig]; rfl) HB.out.1 (by rw [HB.out.2]; exact HY.out.1) (by rw [HB.out.2]; exact HY.out.2) _).mono ?_
            rintro e W1 ⟨⟨Q, R, rfl, hQ, hR, hQv, hRv⟩, hb⟩
            have HQ : Hid _ := Lib.hid (And.intro hQ hQv)
            have hQl := hQ.len
            have hRl := hR.len
            clear hQ hR hQv hRv
            (try replace r7 := r7.keep hb)
            (try replace r8 := r8.keep hb)
            refine hKc.out _ _ ⟨below_step hS.1 hb, hS.2.1.keep hb, hS.2.2.1.keep hb, hS.2.2.2.keep hb⟩ (fun hS => ?_)
            clear hKc Kc
            refine takeH (i := 14) (d := some 35) (v := ?v83) rfl rfl (by kernel_rfl) (by kernel_rfl) (by kernel_rfl) (fun _ _ _ h => h) (Or.inl ⟨by rfl, ?h83⟩) hS ?_
            case h83 => intro W _; go_simp; try with_reducible rfl
            simp only [Act.put, List.setIfInBounds_toArray, List.set_cons_zero, List.set_cons_succ]
            refine takeH (i := 15) (d := some 50) (v := ?v84) rfl rfl (by kernel_rfl) (by kernel_rfl) (by kernel_rfl) (fun _ _ _ h => h) (Or.inl ⟨by rfl, ?h84⟩) hS ?_
            case h84 => intro W _; go_simp; try with_reducible rfl
            simp only [Act.put, List.setIfInBounds_toArray, List.set_cons_zero, List.set_cons_succ]
            refine takeH (i := 16) (d := some 51) (v := ?v85) rfl rfl (by kernel_rfl) (by kernel_rfl) (by kernel_rfl) (fun _ _ _ h => h) (Or.inl ⟨by rfl, ?h85⟩) hS ?_
            case h85 => intro W _; go_simp; try with_reducible rfl
            simp only [Act.put, List.setIfInBounds_toArray, List.set_cons_zero, List.set_cons_succ]
            refine wpAnyH_ready (rs := [19]) (by kernel_rfl) (by simp) ?_
            refine AllReadyH.cons rfl (fun Kc hKc => ?_) AllReadyH.nil
            refine st_of rfl (wp_storeA r7.blk _ _ rfl rfl rfl (agg_num hQl) (by rw [numV_size, numV_size, hQl]; rfl) (numV_oneL Q) rfl (fun W1 a7 hg => ?_))
            replace r8 := r8.far hg hne.symm
            replace r7 : Row24 W1 _ Q := ⟨a7, hQl⟩
            clear a7
            refine hKc.out _ _ ⟨below_far hS.1 hS.1.size (by omega) hg, hS.2.1.far hg (by omega), hS.2.2.1.far hg (by omega), hS.2.2.2.far hg (by omega)⟩ (fun hS => ?_)
            clear hKc Kc
            refine wpAnyH_ready (rs := [20]) (by kernel_rfl) (by simp) ?_
            refine AllReadyH.cons rfl (fun Kc hKc => ?_) AllReadyH.nil
            refine st_of rfl (wp_storeA r8.blk _ _ rfl rfl rfl (agg_num hRl) (by rw [numV_size, numV_size, hRl]; rfl) (numV_oneL R) rfl (fun W1 a8 hg => ?_))
            replace r7 := r7.far hg hne
            replace r8 : Row24 W1 _ R := ⟨a8, hRl⟩
            clear a8
            refine hKc.out _ _ ⟨below_far hS.1 hS.1.size (by omega) hg, hS.2.1.far hg (by omega), hS.2.2.1.far hg (by omega), hS.2.2.2.far hg (by omega)⟩ (fun hS => ?_)
            clear hKc Kc
            refine wpAnyH_done (by kernel_rfl) ?_ _
            go_wp2_with fail
            go_meet
            exact ⟨_, Q, rfl, l7, Lib.hid ⟨HQ.out.1, by rw [HQ.out.2, HU.out, HB.out.2, Dc.val_zeros_back]; exact HQV.out⟩, r7, hS.1, hS.2.1, hS.2.2.1, hS.2.2.2⟩
        refine AllReadyH.cons rfl (fun Kc hKc => ?_) AllReadyH.nil
        have l8 := hS.2.2.2.lt
        (try have hne := Nat.ne_of_lt r7.lt)
        refine st_of rfl (wp_allocA zero_num rfl (d := some 10) rfl (fun W1 a8 hb => ?_))
        (try replace r7 := r7.keep hb)
        have r8 : Row24 W1 _ (List.replicate 24 0) := ⟨a8, rfl⟩
        clear a8
        refine hKc.out _ _ ⟨below_step hS.1 hb, hS.2.1.keep hb, hS.2.2.1.keep hb, hS.2.2.2.keep hb⟩ (fun hS => ?_)
        clear hKc Kc
        simp only [Act.put, List.setIfInBounds_toArray, List.set_cons_zero, List.set_cons_succ]
        refine wpAnyH_ready (rs := [8]) (by kernel_rfl) (by simp) ?_
        refine AllReadyH.cons rfl (fun Kc hKc => ?_) AllReadyH.nil
        go_simp
        refine (C1.out _).mono ?_
        rintro e W1 ⟨⟨z, rfl, hz⟩, hb⟩
        obtain ⟨u, hu⟩ : ∃ u, s ++ z = u := ⟨_, rfl⟩
        have hzl : z.size ≤ 120 := by rw [← bts_length, hz, List.length_replicate]; omega
        have hub : bts u = bts s ++ List.replicate c 48 := by rw [← hu, str_add, hz]
        have HU : Hid _ := Lib.hid hub
        clear hz hub
        (try replace r7 := r7.keep hb)
        (try replace r8 := r8.keep hb)
        refine hKc.out _ _ ⟨below_step hS.1 hb, hS.2.1.keep hb, hS.2.2.1.keep hb, hS.2.2.2.keep hb⟩ (fun hS => ?_)
        clear hKc Kc
        refine takeH (i := 9) (d := some 45) (v := ?v86) rfl rfl (by kernel_rfl) (by kernel_rfl) (by kernel_rfl) (fun _ _ _ h => h) (Or.inl ⟨by rfl, ?h86⟩) hS ?_
        case h86 => intro W _; have hq : ¬ 9223372036854775807 < s.size + z.size := (by omega); go_simp; try with_reducible rfl
        simp only [Act.put, List.setIfInBounds_toArray, List.set_cons_zero, List.set_cons_succ]
        refine wpAnyH_ready (rs := [12]) (by kernel_rfl) (by simp) ?_
        refine AllReadyH.cons rfl (fun Kc hKc => ?_) AllReadyH.nil
        go_simp
        refine (C2.out _).mono ?_
        rintro e W1 ⟨⟨B, rfl, hB3⟩, hb⟩
        have HB : Hid _ := Lib.hid hB3
        clear hB3
        (try replace r7 := r7.keep hb)
        (try replace r8 := r8.keep hb)
        refine hKc.out _ _ ⟨below_step hS.1 hb, hS.2.1.keep hb, hS.2.2.1.keep hb, hS.2.2.2.keep hb⟩ (fun hS => ?_)
        clear hKc Kc
        refine wpAnyH_ready (rs := [13]) (by kernel_rfl) (by simp) ?_
        refine AllReadyH.cons rfl (fun Kc hKc => ?_) AllReadyH.nil
        go_simp
        refine (pover_any u B (by rw [← bts_length, HU.out, List.length_append, bts_length, List.length_replicate]; omega) (by rw [HU.out, List.all_append, HD.out, Dc.zeros_dig]; rfl) HB.out.1 (by rw [HB.out.2]; exact HY.out.1) (by rw [HB.out.2]; exact HY.out.2) _).mono ?_
        rintro e W1 ⟨⟨Q, R, rfl, hQ, hR, hQv, hRv⟩, hb⟩
        have HQ : Hid _ := Lib.hid (And.intro hQ hQv)
        have hQl := hQ.len
        have hRl := hR.len
        clear hQ hR hQv hRv
        (try replace r7 := r7.keep hb)
        (try replace r8 := r8.keep hb)
        refine hKc.out _ _ ⟨below_step hS.1 hb, hS.2.1.keep hb, hS.2.2.1.keep hb, hS.2.2.2.keep hb⟩ (fun hS => ?_)
        clear hKc Kc
        refine takeH (i := 14) (d := some 35) (v := ?v87) rfl rfl (by kernel_rfl) (by kernel_rfl) (by kernel_rfl) (fun _ _ _ h => h) (Or.inl ⟨by rfl, ?h87⟩) hS ?_
        case h87 => intro W _; go_simp; try with_reducible rfl
        simp only [Act.put, List.setIfInBounds_toArray, List.set_cons_zero, List.set_cons_succ]
        refine takeH (i := 15) (d := some 50) (v := ?v88) rfl rfl (by kernel_rfl) (by kernel_rfl) (by kernel_rfl) (fun _ _ _ h => h) (Or.inl ⟨by rfl, ?h88⟩) hS ?_
        case h88 => intro W _; go_simp; try with_reducible rfl
        simp only [Act.put, List.setIfInBounds_toArray, List.set_cons_zero, List.set_cons_succ]
        refine takeH (i := 16) (d := some 51) (v := ?v89) rfl rfl (by kernel_rfl) (by kernel_rfl) (by kernel_rfl) (fun _ _ _ h => h) (Or.inl ⟨by rfl, ?h89⟩) hS ?_
        case h89 => intro W _; go_simp; try with_reducible rfl
        simp only [Act.put, List.setIfInBounds_toArray, List.set_cons_zero, List.set_cons_succ]
        refine wpAnyH_ready (rs := [19]) (by kernel_rfl) (by simp) ?_
        refine AllReadyH.cons rfl (fun Kc hKc => ?_) AllReadyH.nil
        refine st_of rfl (wp_storeA r7.blk _ _ rfl rfl rfl (agg_num hQl) (by rw [numV_size, numV_size, hQl]; rfl) (numV_oneL Q) rfl (fun W1 a7 hg => ?_))
        replace r8 := r8.far hg hne.symm
        replace r7 : Row24 W1 _ Q := ⟨a7, hQl⟩
        clear a7
        refine hKc.out _ _ ⟨below_far hS.1 hS.1.size (by omega) hg, hS.2.1.far hg (by omega), hS.2.2.1.far hg (by omega), hS.2.2.2.far hg (by omega)⟩ (fun hS => ?_)
        clear hKc Kc
        refine wpAnyH_ready (rs := [20]) (by kernel_rfl) (by simp) ?_
        refine AllReadyH.cons rfl (fun Kc hKc => ?_) AllReadyH.nil
        refine st_of rfl (wp_storeA r8.blk _ _ rfl rfl rfl (agg_num hRl) (by rw [numV_size, numV_size, hRl]; rfl) (numV_oneL R) rfl (fun W1 a8 hg => ?_))
        replace r7 := r7.far hg hne
        replace r8 : Row24 W1 _ R := ⟨a8, hRl⟩
        clear a8
        refine hKc.out _ _ ⟨below_far hS.1 hS.1.size (by omega) hg, hS.2.1.far hg (by omega), hS.2.2.1.far hg (by omega), hS.2.2.2.far hg (by omega)⟩ (fun hS => ?_)
        clear hKc Kc
        refine wpAnyH_done (by kernel_rfl) ?_ _
        go_wp2_with fail
        go_meet
        exact ⟨_, Q, rfl, l7, Lib.hid ⟨HQ.out.1, by rw [HQ.out.2, HU.out, HB.out.2, Dc.val_zeros_back]; exact HQV.out⟩, r7, hS.1, hS.2.1, hS.2.2.1, hS.2.2.2⟩
    refine AllReadyH.cons rfl (fun Kc hKc => ?_) AllReadyH.nil
    have l8 := hS.2.2.2.lt
    (try have hne := Nat.ne_of_lt r7.lt)
    refine st_of rfl (wp_allocA zero_num rfl (d := some 10) rfl (fun W1 a8 hb => ?_))
    (try replace r7 := r7.keep hb)
    have r8 : Row24 W1 _ (List.replicate 24 0) := ⟨a8, rfl⟩
    clear a8
    refine hKc.out _ _ ⟨below_step hS.1 hb, hS.2.1.keep hb, hS.2.2.1.keep hb, hS.2.2.2.keep hb⟩ (fun hS => ?_)
    clear hKc Kc
    simp only [Act.put, List.setIfInBounds_toArray, List.set_cons_zero, List.set_cons_succ]
    refine wpAnyH_ready (rs := [8, 17]) (by kernel_rfl) (by simp) ?_
    refine AllReadyH.cons rfl (fun Kc hKc => ?_) ?_
    ·   skip
        go_simp
        refine (C1.out _).mono ?_
        rintro e W1 ⟨⟨z, rfl, hz⟩, hb⟩
        obtain ⟨u, hu⟩ : ∃ u, s ++ z = u := ⟨_, rfl⟩
        have hzl : z.size ≤ 120 := by rw [← bts_length, hz, List.length_replicate]; omega
        have hub : bts u = bts s ++ List.replicate c 48 := by rw [← hu, str_add, hz]
        have HU : Hid _ := Lib.hid hub
        clear hz hub
        (try replace r7 := r7.keep hb)
        (try replace r8 := r8.keep hb)
        refine hKc.out _ _ ⟨below_step hS.1 hb, hS.2.1.keep hb, hS.2.2.1.keep hb, hS.2.2.2.keep hb⟩ (fun hS => ?_)
        clear hKc Kc
        refine takeH (i := 9) (d := some 45) (v := ?v90) rfl rfl (by kernel_rfl) (by kernel_rfl) (by kernel_rfl) (fun _ _ _ h => h) (Or.inl ⟨by rfl, ?h90⟩) hS ?_
        case h90 => intro W _; have hq : ¬ 9223372036854775807 < s.size + z.size := (by omega); go_simp; try with_reducible rfl
        simp only [Act.put, List.setIfInBounds_toArray, List.set_cons_zero, List.set_cons_succ]
        refine wpAnyH_ready (rs := [12, 17]) (by kernel_rfl) (by simp) ?_
        refine AllReadyH.cons rfl (fun Kc hKc => ?_) ?_
        ·   skip
            go_simp
            refine (C2.out _).mono ?_
            rintro e W1 ⟨⟨B, rfl, hB3⟩, hb⟩
            have HB : Hid _ := Lib.hid hB3
            clear hB3
            (try replace r7 := r7.keep hb)
            (try replace r8 := r8.keep hb)
            refine hKc.out _ _ ⟨below_step hS.1 hb, hS.2.1.keep hb, hS.2.2.1.keep hb, hS.2.2.2.keep hb⟩ (fun hS => ?_)
            clear hKc Kc
            refine wpAnyH_ready (rs := [13, 17]) (by kernel_rfl) (by simp) ?_
            refine AllReadyH.cons rfl (fun Kc hKc => ?_) ?_
            ·   skip
                go_simp
                refine (pover_any u B (by rw [← bts_length, HU.out, List.length_append, bts_length, List.length_replicate]; omega) (by rw [HU.out, List.all_append, HD.out, Dc.zeros_dig]; rfl) HB.out.1 (by rw [HB.out.2]; exact HY.out.1) (by rw [HB.out.2]; exact HY.out.2) _).mono ?_
                rintro e W1 ⟨⟨Q, R, rfl, hQ, hR, hQv, hRv⟩, hb⟩
                have HQ : Hid _ := Lib.hid (And.intro hQ hQv)
                have hQl := hQ.len
                have hRl := hR.len
                clear hQ hR hQv hRv
                (try replace r7 := r7.keep hb)
                (try replace r8 := r8.keep hb)
                refine hKc.out _ _ ⟨below_step hS.1 hb, hS.2.1.keep hb, hS.2.2.1.keep hb, hS.2.2.2.keep hb⟩ (fun hS => ?_)
                clear hKc Kc
                refine takeH (i := 14) (d := some 35) (v := ?v91) rfl rfl (by kernel_rfl) (by kernel_rfl) (by kernel_rfl) (fun _ _ _ h => h) (Or.inl ⟨by rfl, ?h91⟩) hS ?_
                case h91 => intro W _; go_simp; try with_reducible rfl
                simp only [Act.put, List.setIfInBounds_toArray, List.set_cons_zero, List.set_cons_succ]
                refine takeH (i := 15) (d := some 50) (v := ?v92) rfl rfl (by kernel_rfl) (by kernel_rfl) (by kernel_rfl) (fun _ _ _ h => h) (Or.inl ⟨by rfl, ?h92⟩) hS ?_
                case h92 => intro W _; go_simp; try with_reducible rfl
                simp only [Act.put, List.setIfInBounds_toArray, List.set_cons_zero, List.set_cons_succ]
                refine takeH (i := 16) (d := some 51) (v := ?v93) rfl rfl (by kernel_rfl) (by kernel_rfl) (by kernel_rfl) (fun _ _ _ h => h) (Or.inl ⟨by rfl, ?h93⟩) hS ?_
                case h93 => intro W _; go_simp; try with_reducible rfl
                simp only [Act.put, List.setIfInBounds_toArray, List.set_cons_zero, List.set_cons_succ]
                refine wpAnyH_ready (rs := [17]) (by kernel_rfl) (by simp) ?_
                refine AllReadyH.cons rfl (fun Kc hKc => ?_) AllReadyH.nil
                have l7 := hS.2.2.2.lt
                (try have hne := (Nat.ne_of_lt r8.lt).symm)
                refine st_of rfl (wp_allocA zero_num rfl (d := some 9) rfl (fun W1 a7 hb => ?_))
                (try replace r8 := r8.keep hb)
                have r7 : Row24 W1 _ (List.replicate 24 0) := ⟨a7, rfl⟩
                clear a7
                refine hKc.out _ _ ⟨below_step hS.1 hb, hS.2.1.keep hb, hS.2.2.1.keep hb, hS.2.2.2.keep hb⟩ (fun hS => ?_)
                clear hKc Kc
                simp only [Act.put, List.setIfInBounds_toArray, List.set_cons_zero, List.set_cons_succ]
                refine wpAnyH_ready (rs := [19]) (by kernel_rfl) (by simp) ?_
                refine AllReadyH.cons rfl (fun Kc hKc => ?_) AllReadyH.nil
                refine st_of rfl (wp_storeA r7.blk _ _ rfl rfl rfl (agg_num hQl) (by rw [numV_size, numV_size, hQl]; rfl) (numV_oneL Q) rfl (fun W1 a7 hg => ?_))
                replace r8 := r8.far hg hne.symm
                replace r7 : Row24 W1 _ Q := ⟨a7, hQl⟩
                clear a7
                refine hKc.out _ _ ⟨below_far hS.1 hS.1.size (by omega) hg, hS.2.1.far hg (by omega), hS.2.2.1.far hg (by omega), hS.2.2.2.far hg (by omega)⟩ (fun hS => ?_)
                clear hKc Kc
                refine wpAnyH_ready (rs := [20]) (by kernel_rfl) (by simp) ?_
                refine AllReadyH.cons rfl (fun Kc hKc => ?_) AllReadyH.nil
                refine st_of rfl (wp_storeA r8.blk _ _ rfl rfl rfl (agg_num hRl) (by rw [numV_size, numV_size, hRl]; rfl) (numV_oneL R) rfl (fun W1 a8 hg => ?_))
                replace r7 := r7.far hg hne
                replace r8 : Row24 W1 _ R := ⟨a8, hRl⟩
                clear a8
                refine hKc.out _ _ ⟨below_far hS.1 hS.1.size (by omega) hg, hS.2.1.far hg (by omega), hS.2.2.1.far hg (by omega), hS.2.2.2.far hg (by omega)⟩ (fun hS => ?_)
                clear hKc Kc
                refine wpAnyH_done (by kernel_rfl) ?_ _
                go_wp2_with fail
                go_meet
                exact ⟨_, Q, rfl, l7, Lib.hid ⟨HQ.out.1, by rw [HQ.out.2, HU.out, HB.out.2, Dc.val_zeros_back]; exact HQV.out⟩, r7, hS.1, hS.2.1, hS.2.2.1, hS.2.2.2⟩
            refine AllReadyH.cons rfl (fun Kc hKc => ?_) AllReadyH.nil
            have l7 := hS.2.2.2.lt
            (try have hne := (Nat.ne_of_lt r8.lt).symm)
            refine st_of rfl (wp_allocA zero_num rfl (d := some 9) rfl (fun W1 a7 hb => ?_))
            (try replace r8 := r8.keep hb)
            have r7 : Row24 W1 _ (List.replicate 24 0) := ⟨a7, rfl⟩
            clear a7
            refine hKc.out _ _ ⟨below_step hS.1 hb, hS.2.1.keep hb, hS.2.2.1.keep hb, hS.2.2.2.keep hb⟩ (fun hS => ?_)
            clear hKc Kc
            simp only [Act.put, List.setIfInBounds_toArray, List.set_cons_zero, List.set_cons_succ]
            refine wpAnyH_ready (rs := [13]) (by kernel_rfl) (by simp) ?_
            refine AllReadyH.cons rfl (fun Kc hKc => ?_) AllReadyH.nil
            go_simp
            refine (pover_any u B (by rw [← bts_length, HU.out, List.length_append, bts_length, List.length_replicate]; omega) (by rw [HU.out, List.all_append, HD.out, Dc.zeros_dig]; rfl) HB.out.1 (by rw [HB.out.2]; exact HY.out.1) (by rw [HB.out.2]; exact HY.out.2) _).mono ?_
            rintro e W1 ⟨⟨Q, R, rfl, hQ, hR, hQv, hRv⟩, hb⟩
            have HQ : Hid _ := Lib.hid (And.intro hQ hQv)
            have hQl := hQ.len
            have hRl := hR.len
            clear hQ hR hQv hRv
            (try replace r7 := r7.keep hb)
            (try replace r8 := r8.keep hb)
            refine hKc.out _ _ ⟨below_step hS.1 hb, hS.2.1.keep hb, hS.2.2.1.keep hb, hS.2.2.2.keep hb⟩ (fun hS => ?_)
            clear hKc Kc
            refine takeH (i := 14) (d := some 35) (v := ?v94) rfl rfl (by kernel_rfl) (by kernel_rfl) (by kernel_rfl) (fun _ _ _ h => h) (Or.inl ⟨by rfl, ?h94⟩) hS ?_
            case h94 => intro W _; go_simp; try with_reducible rfl
            simp only [Act.put, List.setIfInBounds_toArray, List.set_cons_zero, List.set_cons_succ]
            refine takeH (i := 15) (d := some 50) (v := ?v95) rfl rfl (by kernel_rfl) (by kernel_rfl) (by kernel_rfl) (fun _ _ _ h => h) (Or.inl ⟨by rfl, ?h95⟩) hS ?_
            case h95 => intro W _; go_simp; try with_reducible rfl
            simp only [Act.put, List.setIfInBounds_toArray, List.set_cons_zero, List.set_cons_succ]
            refine takeH (i := 16) (d := some 51) (v := ?v96) rfl rfl (by kernel_rfl) (by kernel_rfl) (by kernel_rfl) (fun _ _ _ h => h) (Or.inl ⟨by rfl, ?h96⟩) hS ?_
            case h96 => intro W _; go_simp; try with_reducible rfl
            simp only [Act.put, List.setIfInBounds_toArray, List.set_cons_zero, List.set_cons_succ]
            refine wpAnyH_ready (rs := [19]) (by kernel_rfl) (by simp) ?_
            refine AllReadyH.cons rfl (fun Kc hKc => ?_) AllReadyH.nil
            refine st_of rfl (wp_storeA r7.blk _ _ rfl rfl rfl (agg_num hQl) (by rw [numV_size, numV_size, hQl]; rfl) (numV_oneL Q) rfl (fun W1 a7 hg => ?_))
            replace r8 := r8.far hg hne.symm
            replace r7 : Row24 W1 _ Q := ⟨a7, hQl⟩
            clear a7
            refine hKc.out _ _ ⟨below_far hS.1 hS.1.size (by omega) hg, hS.2.1.far hg (by omega), hS.2.2.1.far hg (by omega), hS.2.2.2.far hg (by omega)⟩ (fun hS => ?_)
            clear hKc Kc
            refine wpAnyH_ready (rs := [20]) (by kernel_rfl) (by simp) ?_
            refine AllReadyH.cons rfl (fun Kc hKc => ?_) AllReadyH.nil
            refine st_of rfl (wp_storeA r8.blk _ _ rfl rfl rfl (agg_num hRl) (by rw [numV_size, numV_size, hRl]; rfl) (numV_oneL R) rfl (fun W1 a8 hg => ?_))
            replace r7 := r7.far hg hne
            replace r8 : Row24 W1 _ R := ⟨a8, hRl⟩
            clear a8
            refine hKc.out _ _ ⟨below_far hS.1 hS.1.size (by omega) hg, hS.2.1.far hg (by omega), hS.2.2.1.far hg (by omega), hS.2.2.2.far hg (by omega)⟩ (fun hS => ?_)
            clear hKc Kc
            refine wpAnyH_done (by kernel_rfl) ?_ _
            go_wp2_with fail
            go_meet
            exact ⟨_, Q, rfl, l7, Lib.hid ⟨HQ.out.1, by rw [HQ.out.2, HU.out, HB.out.2, Dc.val_zeros_back]; exact HQV.out⟩, r7, hS.1, hS.2.1, hS.2.2.1, hS.2.2.2⟩
        refine AllReadyH.cons rfl (fun Kc hKc => ?_) AllReadyH.nil
        have l7 := hS.2.2.2.lt
        (try have hne := (Nat.ne_of_lt r8.lt).symm)
        refine st_of rfl (wp_allocA zero_num rfl (d := some 9) rfl (fun W1 a7 hb => ?_))
        (try replace r8 := r8.keep hb)
        have r7 : Row24 W1 _ (List.replicate 24 0) := ⟨a7, rfl⟩
        clear a7
        refine hKc.out _ _ ⟨below_step hS.1 hb, hS.2.1.keep hb, hS.2.2.1.keep hb, hS.2.2.2.keep hb⟩ (fun hS => ?_)
        clear hKc Kc
        simp only [Act.put, List.setIfInBounds_toArray, List.set_cons_zero, List.set_cons_succ]
        refine wpAnyH_ready (rs := [12]) (by kernel_rfl) (by simp) ?_
        refine AllReadyH.cons rfl (fun Kc hKc => ?_) AllReadyH.nil
        go_simp
        refine (C2.out _).mono ?_
        rintro e W1 ⟨⟨B, rfl, hB3⟩, hb⟩
        have HB : Hid _ := Lib.hid hB3
        clear hB3
        (try replace r7 := r7.keep hb)
        (try replace r8 := r8.keep hb)
        refine hKc.out _ _ ⟨below_step hS.1 hb, hS.2.1.keep hb, hS.2.2.1.keep hb, hS.2.2.2.keep hb⟩ (fun hS => ?_)
        clear hKc Kc
        refine wpAnyH_ready (rs := [13]) (by kernel_rfl) (by simp) ?_
        refine AllReadyH.cons rfl (fun Kc hKc => ?_) AllReadyH.nil
        go_simp
        refine (pover_any u B (by rw [← bts_length, HU.out, List.length_append, bts_length, List.length_replicate]; omega) (by rw [HU.out, List.all_append, HD.out, Dc.zeros_dig]; rfl) HB.out.1 (by rw [HB.out.2]; exact HY.out.1) (by rw [HB.out.2]; exact HY.out.2) _).mono ?_
        rintro e W1 ⟨⟨Q, R, rfl, hQ, hR, hQv, hRv⟩, hb⟩
        have HQ : Hid _ := Lib.hid (And.intro hQ hQv)
        have hQl := hQ.len
        have hRl := hR.len
        clear hQ hR hQv hRv
        (try replace r7 := r7.keep hb)
        (try replace r8 := r8.keep hb)
        refine hKc.out _ _ ⟨below_step hS.1 hb, hS.2.1.keep hb, hS.2.2.1.keep hb, hS.2.2.2.keep hb⟩ (fun hS => ?_)
        clear hKc Kc
        refine takeH (i := 14) (d := some 35) (v := ?v97) rfl rfl (by kernel_rfl) (by kernel_rfl) (by kernel_rfl) (fun _ _ _ h => h) (Or.inl ⟨by rfl, ?h97⟩) hS ?_
        case h97 => intro W _; go_simp; try with_reducible rfl
        simp only [Act.put, List.setIfInBounds_toArray, List.set_cons_zero, List.set_cons_succ]
        refine takeH (i := 15) (d := some 50) (v := ?v98) rfl rfl (by kernel_rfl) (by kernel_rfl) (by kernel_rfl) (fun _ _ _ h => h) (Or.inl ⟨by rfl, ?h98⟩) hS ?_
        case h98 => intro W _; go_simp; try with_reducible rfl
        simp only [Act.put, List.setIfInBounds_toArray, List.set_cons_zero, List.set_cons_succ]
        refine takeH (i := 16) (d := some 51) (v := ?v99) rfl rfl (by kernel_rfl) (by kernel_rfl) (by kernel_rfl) (fun _ _ _ h => h) (Or.inl ⟨by rfl, ?h99⟩) hS ?_
        case h99 => intro W _; go_simp; try with_reducible rfl
        simp only [Act.put, List.setIfInBounds_toArray, List.set_cons_zero, List.set_cons_succ]
        refine wpAnyH_ready (rs := [19]) (by kernel_rfl) (by simp) ?_
        refine AllReadyH.cons rfl (fun Kc hKc => ?_) AllReadyH.nil
        refine st_of rfl (wp_storeA r7.blk _ _ rfl rfl rfl (agg_num hQl) (by rw [numV_size, numV_size, hQl]; rfl) (numV_oneL Q) rfl (fun W1 a7 hg => ?_))
        replace r8 := r8.far hg hne.symm
        replace r7 : Row24 W1 _ Q := ⟨a7, hQl⟩
        clear a7
        refine hKc.out _ _ ⟨below_far hS.1 hS.1.size (by omega) hg, hS.2.1.far hg (by omega), hS.2.2.1.far hg (by omega), hS.2.2.2.far hg (by omega)⟩ (fun hS => ?_)
        clear hKc Kc
        refine wpAnyH_ready (rs := [20]) (by kernel_rfl) (by simp) ?_
        refine AllReadyH.cons rfl (fun Kc hKc => ?_) AllReadyH.nil
        refine st_of rfl (wp_storeA r8.blk _ _ rfl rfl rfl (agg_num hRl) (by rw [numV_size, numV_size, hRl]; rfl) (numV_oneL R) rfl (fun W1 a8 hg => ?_))
        replace r7 := r7.far hg hne
        replace r8 : Row24 W1 _ R := ⟨a8, hRl⟩
        clear a8
        refine hKc.out _ _ ⟨below_far hS.1 hS.1.size (by omega) hg, hS.2.1.far hg (by omega), hS.2.2.1.far hg (by omega), hS.2.2.2.far hg (by omega)⟩ (fun hS => ?_)
        clear hKc Kc
        refine wpAnyH_done (by kernel_rfl) ?_ _
        go_wp2_with fail
        go_meet
        exact ⟨_, Q, rfl, l7, Lib.hid ⟨HQ.out.1, by rw [HQ.out.2, HU.out, HB.out.2, Dc.val_zeros_back]; exact HQV.out⟩, r7, hS.1, hS.2.1, hS.2.2.1, hS.2.2.2⟩
    refine AllReadyH.cons rfl (fun Kc hKc => ?_) AllReadyH.nil
    have l7 := hS.2.2.2.lt
    (try have hne := (Nat.ne_of_lt r8.lt).symm)
    refine st_of rfl (wp_allocA zero_num rfl (d := some 9) rfl (fun W1 a7 hb => ?_))
    (try replace r8 := r8.keep hb)
    have r7 : Row24 W1 _ (List.replicate 24 0) := ⟨a7, rfl⟩
    clear a7
    refine hKc.out _ _ ⟨below_step hS.1 hb, hS.2.1.keep hb, hS.2.2.1.keep hb, hS.2.2.2.keep hb⟩ (fun hS => ?_)
    clear hKc Kc
    simp only [Act.put, List.setIfInBounds_toArray, List.set_cons_zero, List.set_cons_succ]
    refine wpAnyH_ready (rs := [8]) (by kernel_rfl) (by simp) ?_
    refine AllReadyH.cons rfl (fun Kc hKc => ?_) AllReadyH.nil
    go_simp
    refine (C1.out _).mono ?_
    rintro e W1 ⟨⟨z, rfl, hz⟩, hb⟩
    obtain ⟨u, hu⟩ : ∃ u, s ++ z = u := ⟨_, rfl⟩
    have hzl : z.size ≤ 120 := by rw [← bts_length, hz, List.length_replicate]; omega
    have hub : bts u = bts s ++ List.replicate c 48 := by rw [← hu, str_add, hz]
    have HU : Hid _ := Lib.hid hub
    clear hz hub
    (try replace r7 := r7.keep hb)
    (try replace r8 := r8.keep hb)
    refine hKc.out _ _ ⟨below_step hS.1 hb, hS.2.1.keep hb, hS.2.2.1.keep hb, hS.2.2.2.keep hb⟩ (fun hS => ?_)
    clear hKc Kc
    refine takeH (i := 9) (d := some 45) (v := ?v100) rfl rfl (by kernel_rfl) (by kernel_rfl) (by kernel_rfl) (fun _ _ _ h => h) (Or.inl ⟨by rfl, ?h100⟩) hS ?_
    case h100 => intro W _; have hq : ¬ 9223372036854775807 < s.size + z.size := (by omega); go_simp; try with_reducible rfl
    simp only [Act.put, List.setIfInBounds_toArray, List.set_cons_zero, List.set_cons_succ]
    refine wpAnyH_ready (rs := [12]) (by kernel_rfl) (by simp) ?_
    refine AllReadyH.cons rfl (fun Kc hKc => ?_) AllReadyH.nil
    go_simp
    refine (C2.out _).mono ?_
    rintro e W1 ⟨⟨B, rfl, hB3⟩, hb⟩
    have HB : Hid _ := Lib.hid hB3
    clear hB3
    (try replace r7 := r7.keep hb)
    (try replace r8 := r8.keep hb)
    refine hKc.out _ _ ⟨below_step hS.1 hb, hS.2.1.keep hb, hS.2.2.1.keep hb, hS.2.2.2.keep hb⟩ (fun hS => ?_)
    clear hKc Kc
    refine wpAnyH_ready (rs := [13]) (by kernel_rfl) (by simp) ?_
    refine AllReadyH.cons rfl (fun Kc hKc => ?_) AllReadyH.nil
    go_simp
    refine (pover_any u B (by rw [← bts_length, HU.out, List.length_append, bts_length, List.length_replicate]; omega) (by rw [HU.out, List.all_append, HD.out, Dc.zeros_dig]; rfl) HB.out.1 (by rw [HB.out.2]; exact HY.out.1) (by rw [HB.out.2]; exact HY.out.2) _).mono ?_
    rintro e W1 ⟨⟨Q, R, rfl, hQ, hR, hQv, hRv⟩, hb⟩
    have HQ : Hid _ := Lib.hid (And.intro hQ hQv)
    have hQl := hQ.len
    have hRl := hR.len
    clear hQ hR hQv hRv
    (try replace r7 := r7.keep hb)
    (try replace r8 := r8.keep hb)
    refine hKc.out _ _ ⟨below_step hS.1 hb, hS.2.1.keep hb, hS.2.2.1.keep hb, hS.2.2.2.keep hb⟩ (fun hS => ?_)
    clear hKc Kc
    refine takeH (i := 14) (d := some 35) (v := ?v101) rfl rfl (by kernel_rfl) (by kernel_rfl) (by kernel_rfl) (fun _ _ _ h => h) (Or.inl ⟨by rfl, ?h101⟩) hS ?_
    case h101 => intro W _; go_simp; try with_reducible rfl
    simp only [Act.put, List.setIfInBounds_toArray, List.set_cons_zero, List.set_cons_succ]
    refine takeH (i := 15) (d := some 50) (v := ?v102) rfl rfl (by kernel_rfl) (by kernel_rfl) (by kernel_rfl) (fun _ _ _ h => h) (Or.inl ⟨by rfl, ?h102⟩) hS ?_
    case h102 => intro W _; go_simp; try with_reducible rfl
    simp only [Act.put, List.setIfInBounds_toArray, List.set_cons_zero, List.set_cons_succ]
    refine takeH (i := 16) (d := some 51) (v := ?v103) rfl rfl (by kernel_rfl) (by kernel_rfl) (by kernel_rfl) (fun _ _ _ h => h) (Or.inl ⟨by rfl, ?h103⟩) hS ?_
    case h103 => intro W _; go_simp; try with_reducible rfl
    simp only [Act.put, List.setIfInBounds_toArray, List.set_cons_zero, List.set_cons_succ]
    refine wpAnyH_ready (rs := [19]) (by kernel_rfl) (by simp) ?_
    refine AllReadyH.cons rfl (fun Kc hKc => ?_) AllReadyH.nil
    refine st_of rfl (wp_storeA r7.blk _ _ rfl rfl rfl (agg_num hQl) (by rw [numV_size, numV_size, hQl]; rfl) (numV_oneL Q) rfl (fun W1 a7 hg => ?_))
    replace r8 := r8.far hg hne.symm
    replace r7 : Row24 W1 _ Q := ⟨a7, hQl⟩
    clear a7
    refine hKc.out _ _ ⟨below_far hS.1 hS.1.size (by omega) hg, hS.2.1.far hg (by omega), hS.2.2.1.far hg (by omega), hS.2.2.2.far hg (by omega)⟩ (fun hS => ?_)
    clear hKc Kc
    refine wpAnyH_ready (rs := [20]) (by kernel_rfl) (by simp) ?_
    refine AllReadyH.cons rfl (fun Kc hKc => ?_) AllReadyH.nil
    refine st_of rfl (wp_storeA r8.blk _ _ rfl rfl rfl (agg_num hRl) (by rw [numV_size, numV_size, hRl]; rfl) (numV_oneL R) rfl (fun W1 a8 hg => ?_))
    replace r7 := r7.far hg hne
    replace r8 : Row24 W1 _ R := ⟨a8, hRl⟩
    clear a8
    refine hKc.out _ _ ⟨below_far hS.1 hS.1.size (by omega) hg, hS.2.1.far hg (by omega), hS.2.2.1.far hg (by omega), hS.2.2.2.far hg (by omega)⟩ (fun hS => ?_)
    clear hKc Kc
    refine wpAnyH_done (by kernel_rfl) ?_ _
    go_wp2_with fail
    go_meet
    exact ⟨_, Q, rfl, l7, Lib.hid ⟨HQ.out.1, by rw [HQ.out.2, HU.out, HB.out.2, Dc.val_zeros_back]; exact HQV.out⟩, r7, hS.1, hS.2.1, hS.2.2.1, hS.2.2.2⟩
  case rest =>
    clear b2 b3 b4 hB
    obtain ⟨g7, Q, rfl, l7, HQ, r7, hB, b2, b3, b4⟩ := hcut
    have Ql := r7.len
    go_wp2_with fail
    refine wp_region_held_drew (S := fun W : World => Below w.heap.size w W ∧ Blk W w.heap.size 23 #[.bool n, .string s, .int .i64 (T : Int)] ∧ Blk W W2.heap.size 23 #[.bool m, .string t, .int .i64 (V : Int)] ∧ Row24 W g7 Q) (by kernel_rfl) ⟨below_step hB (below_drew _), b2.drew, b3.drew, r7.drewR⟩ (fun hS => ?_)
    replace b4 := b4.drew
    refine takeH (i := 0) (d := some 52) (v := ?v104) rfl rfl (by kernel_rfl) (by kernel_rfl) (by kernel_rfl) (fun _ _ _ h => h) (Or.inl ⟨by rfl, ?h104⟩) hS ?_
    case h104 => intro W _; go_simp; try with_reducible rfl
    simp only [Act.put, List.setIfInBounds_toArray, List.set_cons_zero, List.set_cons_succ]
    refine takeH (i := 1) (d := some 53) (v := .bool n) rfl rfl (by kernel_rfl) (by kernel_rfl) (by kernel_rfl) (fun _ _ _ h => h) (yields_C rfl (by rfl) (by kernel_rfl) _ rfl (j := 0) rfl rfl (fun W hW => hW.2.1)) hS ?_
    simp only [Act.put, List.setIfInBounds_toArray, List.set_cons_zero, List.set_cons_succ]
    refine takeH (i := 2) (d := some 54) (v := ?v105) rfl rfl (by kernel_rfl) (by kernel_rfl) (by kernel_rfl) (fun _ _ _ h => h) (Or.inl ⟨by rfl, ?h105⟩) hS ?_
    case h105 => intro W _; go_simp; try with_reducible rfl
    simp only [Act.put, List.setIfInBounds_toArray, List.set_cons_zero, List.set_cons_succ]
    refine takeH (i := 3) (d := some 55) (v := .bool m) rfl rfl (by kernel_rfl) (by kernel_rfl) (by kernel_rfl) (fun _ _ _ h => h) (yields_C rfl (by rfl) (by kernel_rfl) _ rfl (j := 0) rfl rfl (fun W hW => hW.2.2.1)) hS ?_
    simp only [Act.put, List.setIfInBounds_toArray, List.set_cons_zero, List.set_cons_succ]
    refine takeH (i := 4) (d := some 56) (v := ?v106) rfl rfl (by kernel_rfl) (by kernel_rfl) (by kernel_rfl) (fun _ _ _ h => h) (Or.inl ⟨by rfl, ?h106⟩) hS ?_
    case h106 => intro W _; go_simp; try with_reducible rfl
    simp only [Act.put, List.setIfInBounds_toArray, List.set_cons_zero, List.set_cons_succ]
    refine takeH (i := 5) (d := some 57) (v := _) rfl rfl (by kernel_rfl) (by kernel_rfl) (by kernel_rfl) (fun _ _ _ h => h) (yields_A rfl (by rfl) (agg_num Ql) _ rfl rfl (fun W hW => (hW.2.2.2).blk)) hS ?_
    simp only [Act.put, List.setIfInBounds_toArray, List.set_cons_zero, List.set_cons_succ]
    refine takeH (i := 7) (d := some 59) (v := ?v107) rfl rfl (by kernel_rfl) (by kernel_rfl) (by kernel_rfl) (fun _ _ _ h => h) (Or.inl ⟨by rfl, ?h107⟩) hS ?_
    case h107 => intro W _; go_simp; try with_reducible rfl
    simp only [Act.put, List.setIfInBounds_toArray, List.set_cons_zero, List.set_cons_succ]
    refine wpAnyH_ready (rs := [6]) (by kernel_rfl) (by simp) ?_
    refine AllReadyH.cons rfl (fun Kc hKc => ?_) AllReadyH.nil
    go_simp
    refine (pdigits_any Q HQ.out.1 _ (HP.out.keep hS.1)).mono ?_
    rintro e W6 ⟨⟨u, rfl, hu⟩, hb⟩
    have HU : Hid _ := Lib.hid hu
    clear hu
    replace b4 := b4.keep hb
    refine hKc.out _ _ ⟨below_step hS.1 hb, hS.2.1.keep hb, hS.2.2.1.keep hb, hS.2.2.2.keep hb⟩ (fun hS => ?_)
    clear hKc Kc
    refine wpAnyH_ready (rs := [8]) (by kernel_rfl) (by simp) ?_
    refine AllReadyH.cons rfl (fun Kc hKc => ?_) AllReadyH.nil
    go_simp
    refine (pof_is _ u K (Nat.le_trans (digs_size (k := 180) HU.out (by rw [HQ.out.2]; exact HQL.out) (by decide)) (by decide)) (by omega) (digs_all HU.out) r (by rw [val_of HU.out, HQ.out.2]; exact HR.out) _).mono ?_
    rintro e W7 ⟨rfl, hb⟩
    replace b4 := b4.keep hb
    refine hKc.out _ _ ⟨below_step hS.1 hb, hS.2.1.keep hb, hS.2.2.1.keep hb, hS.2.2.2.keep hb⟩ (fun hS => ?_)
    clear hKc Kc
    refine takeH (i := 9) (d := some 61) (v := ?v108) rfl rfl (by kernel_rfl) (by kernel_rfl) (by kernel_rfl) (fun _ _ _ h => h) (Or.inl ⟨by rfl, ?h108⟩) hS ?_
    case h108 => intro W _; go_simp; try with_reducible rfl
    simp only [Act.put, List.setIfInBounds_toArray, List.set_cons_zero, List.set_cons_succ]
    refine takeH (i := 10) (d := some 62) (v := ?v109) rfl rfl (by kernel_rfl) (by kernel_rfl) (by kernel_rfl) (fun _ _ _ h => h) (Or.inl ⟨by rfl, ?h109⟩) hS ?_
    case h109 => intro W _; go_simp; try with_reducible rfl
    simp only [Act.put, List.setIfInBounds_toArray, List.set_cons_zero, List.set_cons_succ]
    refine wpAnyH_ready (rs := [11]) (by kernel_rfl) (by simp) ?_
    refine AllReadyH.cons rfl (fun Kc hKc => ?_) AllReadyH.nil
    refine st_of rfl (wp_storeA b4 _ _ rfl rfl rfl (by kernel_rfl) rfl rfl rfl (fun W8 b8 hg => ?_))
    refine hKc.out _ _ ⟨below_far hS.1 hS.1.size (by omega) hg, hS.2.1.far hg (by omega), hS.2.2.1.far hg (by omega), hS.2.2.2.far hg (by omega)⟩ (fun hS => ?_)
    clear hKc Kc
    refine takeH (i := 12) (d := some 7) (v := ?v110) rfl rfl (by kernel_rfl) (by kernel_rfl) (by kernel_rfl) (fun _ _ _ h => h) (Or.inl ⟨by rfl, ?h110⟩) hS ?_
    case h110 => intro W _; go_simp; try with_reducible rfl
    simp only [Act.put, List.setIfInBounds_toArray, List.set_cons_zero, List.set_cons_succ]
    refine wpAnyH_done (by kernel_rfl) ?_ _
    go_wp2
    exact bodyPost_ret (res_cell_tmp rfl b8 (by kernel_rfl) rfl rfl) rfl ⟨rfl, hS.1⟩
theorem pdiv_is (n : Bool) (s : ByteArray) (S : Int) (m : Bool) (t : ByteArray) (U : Int) (K : Int) (hs : s.size ≤ 1000000) (ht : t.size ≤ 1000000) (r : Res) (hr : divR n s S m t U K = r) (w : World) (hP : Pow w) : Calls Tryz.prog 17 #[.agg #[.bool n, .string s, .int .i64 S], .agg #[.bool m, .string t, .int .i64 U], .int .i64 K] w fun e w' => e = .returned (.tuple #[.agg #[.bool r.n, .string r.s, .int .i64 r.S], .int .i64 r.k]) ∧ Below w.heap.size w w' := by
  have T : ∀ {p : Prop} [Decidable p], p → decide p = true := fun h => decide_eq_true h
  have N : ∀ {p : Prop} [Decidable p], ¬ p → decide p = false := fun h => decide_eq_false h
  unfold divR at hr
  cases h1 : okB n s S with
  | false => rw [if_neg (by rw [h1]; simp)] at hr; subst hr; exact pDiv_no1 n s S m t U K hs h1 w
  | true =>
    cases h2 : okB m t U with
    | false => rw [if_neg (by rw [h2]; simp)] at hr; subst hr; exact pDiv_no2 n s S m t U K hs ht h1 h2 w
    | true =>
      by_cases hz : bts t = [48]
      · rw [if_neg (fun h => h.2.2.1 hz)] at hr; subst hr
        exact pDiv_noz n s S m t U K hs ht h1 h2 (by rw [word_beq]; exact T hz) w
      · have q : (t.toList == [48]) = false := by rw [word_beq]; exact N hz
        by_cases h3 : K < 0
        · rw [if_neg (fun h => by have := h.2.2.2.1; omega)] at hr; subst hr
          exact pDiv_non n s S m t U K hs ht h1 h2 q (T h3) w
        · by_cases h4 : 60 < K
          · rw [if_neg (fun h => by have := h.2.2.2.2; omega)] at hr; subst hr
            exact pDiv_now n s S m t U K hs ht h1 h2 q (N h3) (T h4) w
          · rw [if_pos ⟨h1, h2, hz, by omega, by omega⟩] at hr
            obtain ⟨L, rfl⟩ : ∃ L : Nat, K = L := ⟨K.toNat, by omega⟩
            exact pDiv_yes n s S m t U L h1 h2 hz (by omega) r hr w hP
end Go.Proofs.YthmmjihldkjhhaaGreatDoor
