/-
  What Cmp returns.
-/
import Derived.Test.YthmmjihldkjhhaaGreatDoorPmul
namespace Go.Proofs.YthmmjihldkjhhaaGreatDoor
open Go Go.RowKit

theorem pcmp_ord (a b : List Nat) (ha : Num a) (hb : Num b) (X Y : Nat) (hX : Dc.valB a = X) (hY : Dc.valB b = Y) (w : World) : Calls Tryz.prog 56 #[.agg (numV a), .agg (numV b)] w fun e w' => (∃ z : Int, e = .returned (.int .i64 z) ∧ -1 ≤ z ∧ z ≤ 1 ∧ z = Dc.ord X Y) ∧ Below w.heap.size w w' := by
  refine (pcmp_any a b ha hb w).mono ?_
  rintro e w' ⟨rfl, hw⟩
  subst hX; subst hY
  refine ⟨⟨_, rfl, ?_, ?_, rfl⟩, hw⟩ <;> (unfold cmpI; split <;> (try split) <;> omega)
theorem ret_two {a b c d : Int} (h1 : a = c) (h2 : b = d) : Ending.returned (.tuple #[.int .i64 a, .int .i64 b]) = .returned (.tuple #[.int .i64 c, .int .i64 d]) := by rw [h1, h2]
set_option maxRecDepth 100000 in
set_option maxHeartbeats 4000000 in
theorem pCmp_no1 (n : Bool) (s : ByteArray) (S : Int) (m : Bool) (t : ByteArray) (U : Int) (hs : s.size ≤ 1000000) (hk : okB n s S = false) (w : World) : Calls Tryz.prog 26 #[.agg #[.bool n, .string s, .int .i64 S], .agg #[.bool m, .string t, .int .i64 U]] w fun e w' => e = .returned (.tuple #[.int .i64 0, .int .i64 2]) ∧ Below w.heap.size w w' := by
  have C : Hid _ := Lib.hid (pchecked2_no n s S hs m t U hk)
  clear hk
  go_enter Tryz.func26, Tryz.ntmps26
  go_wp2_with (first
    | (refine wl_boxA rfl (.tmp 0) rfl rfl (fun W2 b2 hb2 => ?_))
    | (refine wl_boxA rfl (.tmp 1) rfl rfl (fun W3 b3 hb3 => ?_); have l2 := b2.lt; have l22 := hb2.size; replace b2 := b2.keep hb3; have l3 := b3.lt; have hB := below_step hb2 hb3; clear hb2 hb3)
    | (refine wl_loadA (ty := 23) b2 rfl (by kernel_rfl) _ rfl rfl ?_)
    | (refine wl_loadA (ty := 23) b3 rfl (by kernel_rfl) _ rfl rfl ?_)
    | (go_at_call 43; refine (C.out _ _ (by simp [World.cell?_alloc_new]) (by simp [World.cell?_alloc_new]) (by simp [World.cell?_alloc_new]) (by simp [World.cell?_alloc_new]) (by simp [World.cell?_alloc_new]) (by simp [World.cell?_alloc_new])).mono ?_; rintro e W5 ⟨rfl, hb⟩; replace hB := below_step (below_step hB (below_new _ _)) hb; replace b2 := (Blk.old b2 _).keep hb; replace b3 := (Blk.old b3 _).keep hb; clear hb))
  go_ret2
  exact ⟨rfl, hB⟩
set_option maxRecDepth 100000 in
set_option maxHeartbeats 4000000 in
theorem pCmp_no2 (n : Bool) (s : ByteArray) (S : Int) (m : Bool) (t : ByteArray) (U : Int) (hs : s.size ≤ 1000000) (ht : t.size ≤ 1000000) (hk1 : okB n s S = true) (hk : okB m t U = false) (w : World) : Calls Tryz.prog 26 #[.agg #[.bool n, .string s, .int .i64 S], .agg #[.bool m, .string t, .int .i64 U]] w fun e w' => e = .returned (.tuple #[.int .i64 0, .int .i64 2]) ∧ Below w.heap.size w w' := by
  have C : Hid _ := Lib.hid (pchecked2_yn n s S hs m t U ht hk1 hk)
  clear hk1 hk
  go_enter Tryz.func26, Tryz.ntmps26
  go_wp2_with (first
    | (refine wl_boxA rfl (.tmp 0) rfl rfl (fun W2 b2 hb2 => ?_))
    | (refine wl_boxA rfl (.tmp 1) rfl rfl (fun W3 b3 hb3 => ?_); have l2 := b2.lt; have l22 := hb2.size; replace b2 := b2.keep hb3; have l3 := b3.lt; have hB := below_step hb2 hb3; clear hb2 hb3)
    | (refine wl_loadA (ty := 23) b2 rfl (by kernel_rfl) _ rfl rfl ?_)
    | (refine wl_loadA (ty := 23) b3 rfl (by kernel_rfl) _ rfl rfl ?_)
    | (go_at_call 43; refine (C.out _ _ (by simp [World.cell?_alloc_new]) (by simp [World.cell?_alloc_new]) (by simp [World.cell?_alloc_new]) (by simp [World.cell?_alloc_new]) (by simp [World.cell?_alloc_new]) (by simp [World.cell?_alloc_new])).mono ?_; rintro e W5 ⟨rfl, hb⟩; replace hB := below_step (below_step hB (below_new _ _)) hb; replace b2 := (Blk.old b2 _).keep hb; replace b3 := (Blk.old b3 _).keep hb; clear hb))
  go_ret2
  exact ⟨rfl, hB⟩
set_option maxRecDepth 100000 in
set_option maxHeartbeats 4000000 in
theorem pCmp_tt (s : ByteArray) (S : Int) (t : ByteArray) (U : Int) (hk1 : okB true s S = true) (hk2 : okB true t U = true) (K X Y : Nat) (hM : max S.toNat U.toNat = K) (hX : Dc.val (bts s) * 10 ^ (K - S.toNat) = X) (hY : Dc.val (bts t) * 10 ^ (K - U.toNat) = Y) (w : World) : Calls Tryz.prog 26 #[.agg #[.bool true, .string s, .int .i64 S], .agg #[.bool true, .string t, .int .i64 U]] w fun e w' => e = .returned (.tuple #[.int .i64 (-Dc.ord X Y), .int .i64 0]) ∧ Below w.heap.size w w' := by
  have h1 := okB_ok hk1
  have h2 := okB_ok hk2
  obtain ⟨T, rfl⟩ : ∃ T : Nat, S = T := ⟨S.toNat, by have := h1.low; omega⟩
  obtain ⟨V, rfl⟩ : ∃ V : Nat, U = V := ⟨U.toNat, by have := h2.low; omega⟩
  have hT : T ≤ 60 := by have := h1.high; omega
  have hV : V ≤ 60 := by have := h2.high; omega
  have C : Hid _ := Lib.hid (pchecked2_yes true s (T : Int) (by have := h1.size; omega) true t (V : Int) (by have := h2.size; omega) hk1 hk2)
  simp only [Int.toNat_natCast] at hM hX hY
  have C1 : Hid _ := Lib.hid (pscaled_any true s T K h1.size h1.dig.all (by omega) (by omega))
  have C2 : Hid _ := Lib.hid (pscaled_any true t V K h2.size h2.dig.all (by omega) (by omega))
  rw [hX] at C1
  rw [hY] at C2
  have hmx : max (T : Int) (V : Int) = (K : Int) := by omega
  have hKl : K ≤ 60 := by omega
  clear h1 h2 hk1 hk2 hX hY hM
  go_enter Tryz.func26, Tryz.ntmps26
  go_wp2_with (first
    | (refine wl_boxA rfl (.tmp 0) rfl rfl (fun W2 b2 hb2 => ?_))
    | (refine wl_boxA rfl (.tmp 1) rfl rfl (fun W3 b3 hb3 => ?_); have l2 := b2.lt; have l22 := hb2.size; replace b2 := b2.keep hb3; have l3 := b3.lt; have hB := below_step hb2 hb3; clear hb2 hb3)
    | (refine wl_loadA (ty := 23) b2 rfl (by kernel_rfl) _ rfl rfl ?_)
    | (refine wl_loadA (ty := 23) b3 rfl (by kernel_rfl) _ rfl rfl ?_)
    | (go_at_call 43; refine (C.out _ _ (by simp [World.cell?_alloc_new]) (by simp [World.cell?_alloc_new]) (by simp [World.cell?_alloc_new]) (by simp [World.cell?_alloc_new]) (by simp [World.cell?_alloc_new]) (by simp [World.cell?_alloc_new])).mono ?_; rintro e W5 ⟨rfl, hb⟩; replace hB := below_step (below_step hB (below_new _ _)) hb; replace b2 := (Blk.old b2 _).keep hb; replace b3 := (Blk.old b3 _).keep hb; clear hb)
    | (refine wl_loadC b2 rfl (by kernel_rfl) _ rfl (j := 0) rfl rfl ?_)
    | (refine wl_loadC b3 rfl (by kernel_rfl) _ rfl (j := 0) rfl rfl ?_)
    | (refine wl_loadC b2 rfl (by kernel_rfl) _ rfl (j := 2) rfl rfl ?_)
    | (refine wl_loadC b3 rfl (by kernel_rfl) _ rfl (j := 2) rfl rfl ?_))
  refine wp_region_held_drew (S := fun W : World => Below w.heap.size w W ∧ Blk W w.heap.size 23 #[.bool true, .string s, .int .i64 (T : Int)] ∧ Blk W W2.heap.size 23 #[.bool true, .string t, .int .i64 (V : Int)]) (by kernel_rfl) ⟨below_step hB (below_drew _), b2.drew, b3.drew⟩ (fun hS => ?_)
  refine takeH (i := 0) (d := some 26) (v := ?v15) rfl rfl (by kernel_rfl) (by kernel_rfl) (by kernel_rfl) (fun _ _ _ h => h) (Or.inl ⟨by rfl, ?h15⟩) hS ?_
  case h15 => intro W _; go_simp; try with_reducible rfl
  simp only [Act.put, List.setIfInBounds_toArray, List.set_cons_zero, List.set_cons_succ]
  refine takeH (i := 1) (d := some 27) (v := _) rfl rfl (by kernel_rfl) (by kernel_rfl) (by kernel_rfl) (fun _ _ _ h => h) (yields_A rfl (by rfl) (by kernel_rfl) _ rfl rfl (fun W hW => hW.2.1)) hS ?_
  simp only [Act.put, List.setIfInBounds_toArray, List.set_cons_zero, List.set_cons_succ]
  refine takeH (i := 2) (d := some 28) (v := ?v16) rfl rfl (by kernel_rfl) (by kernel_rfl) (by kernel_rfl) (fun _ _ _ h => h) (Or.inl ⟨by rfl, ?h16⟩) hS ?_
  case h16 => intro W _; go_simp; try with_reducible rfl
  simp only [Act.put, List.setIfInBounds_toArray, List.set_cons_zero, List.set_cons_succ]
  refine takeH (i := 4) (d := some 30) (v := _) rfl rfl (by kernel_rfl) (by kernel_rfl) (by kernel_rfl) (fun _ _ _ h => h) (yields_A rfl (by rfl) (by kernel_rfl) _ rfl rfl (fun W hW => hW.2.2)) hS ?_
  simp only [Act.put, List.setIfInBounds_toArray, List.set_cons_zero, List.set_cons_succ]
  refine takeH (i := 5) (d := some 31) (v := ?v17) rfl rfl (by kernel_rfl) (by kernel_rfl) (by kernel_rfl) (fun _ _ _ h => h) (Or.inl ⟨by rfl, ?h17⟩) hS ?_
  case h17 => intro W _; go_simp; try with_reducible rfl
  simp only [Act.put, List.setIfInBounds_toArray, List.set_cons_zero, List.set_cons_succ]
  refine wpAnyH_ready (rs := [3]) (by kernel_rfl) (by simp) ?_
  refine AllReadyH.cons rfl (fun Kc hKc => ?_) AllReadyH.nil
  go_simp
  refine (C1.out _).mono ?_
  rintro e W6 ⟨⟨A, rfl, hA⟩, hb⟩
  have HA : Hid _ := Lib.hid hA
  clear hA
  refine hKc.out _ _ ⟨below_step hS.1 hb, hS.2.1.keep hb, hS.2.2.keep hb⟩ (fun hS => ?_)
  clear hKc Kc
  refine wpAnyH_ready (rs := [6]) (by kernel_rfl) (by simp) ?_
  refine AllReadyH.cons rfl (fun Kc hKc => ?_) AllReadyH.nil
  go_simp
  refine (C2.out _).mono ?_
  rintro e W7 ⟨⟨B, rfl, hB3⟩, hb⟩
  have HB : Hid _ := Lib.hid hB3
  clear hB3
  refine hKc.out _ _ ⟨below_step hS.1 hb, hS.2.1.keep hb, hS.2.2.keep hb⟩ (fun hS => ?_)
  clear hKc Kc
  refine wpAnyH_ready (rs := [7]) (by kernel_rfl) (by simp) ?_
  refine AllReadyH.cons rfl (fun Kc hKc => ?_) AllReadyH.nil
  go_simp
  refine (pcmp_ord A B HA.out.1 HB.out.1 X Y HA.out.2 HB.out.2 _).mono ?_
  rintro e W8 ⟨⟨z, rfl, z1, z2, hz⟩, hb⟩
  have HZ : Hid _ := Lib.hid hz
  clear hz
  refine hKc.out _ _ ⟨below_step hS.1 hb, hS.2.1.keep hb, hS.2.2.keep hb⟩ (fun hS => ?_)
  clear hKc Kc
  refine takeH (i := 8) (d := some 34) (v := ?v18) rfl rfl (by kernel_rfl) (by kernel_rfl) (by kernel_rfl) (fun _ _ _ h => h) (Or.inl ⟨by rfl, ?h18⟩) hS ?_
  case h18 => intro W _; have wz1 : IntKind.i64.wrap z = z := (by rw [IntKind.wrap_i64]; omega); have wz2 : IntKind.i64.wrap (-z) = -z := (by rw [IntKind.wrap_i64]; omega); go_simp; try with_reducible rfl
  simp only [Act.put, List.setIfInBounds_toArray, List.set_cons_zero, List.set_cons_succ]
  refine takeH (i := 9) (d := some 4) (v := ?v19) rfl rfl (by kernel_rfl) (by kernel_rfl) (by kernel_rfl) (fun _ _ _ h => h) (Or.inl ⟨by rfl, ?h19⟩) hS ?_
  case h19 => intro W _; go_simp; try with_reducible rfl
  simp only [Act.put, List.setIfInBounds_toArray, List.set_cons_zero, List.set_cons_succ]
  refine takeH (i := 10) (d := some 5) (v := ?v20) rfl rfl (by kernel_rfl) (by kernel_rfl) (by kernel_rfl) (fun _ _ _ h => h) (Or.inl ⟨by rfl, ?h20⟩) hS ?_
  case h20 => intro W _; go_simp; try with_reducible rfl
  simp only [Act.put, List.setIfInBounds_toArray, List.set_cons_zero, List.set_cons_succ]
  refine wpAnyH_done (by kernel_rfl) ?_ _
  go_wp2
  go_ret2
  exact ⟨ret_two (by have := HZ.out; omega) rfl, hS.1⟩
set_option maxRecDepth 100000 in
set_option maxHeartbeats 4000000 in
theorem pCmp_tf (s : ByteArray) (S : Int) (t : ByteArray) (U : Int) (hk1 : okB true s S = true) (hk2 : okB false t U = true) (K X Y : Nat) (hM : max S.toNat U.toNat = K) (hX : Dc.val (bts s) * 10 ^ (K - S.toNat) = X) (hY : Dc.val (bts t) * 10 ^ (K - U.toNat) = Y) (w : World) : Calls Tryz.prog 26 #[.agg #[.bool true, .string s, .int .i64 S], .agg #[.bool false, .string t, .int .i64 U]] w fun e w' => e = .returned (.tuple #[.int .i64 (-1), .int .i64 0]) ∧ Below w.heap.size w w' := by
  have h1 := okB_ok hk1
  have h2 := okB_ok hk2
  obtain ⟨T, rfl⟩ : ∃ T : Nat, S = T := ⟨S.toNat, by have := h1.low; omega⟩
  obtain ⟨V, rfl⟩ : ∃ V : Nat, U = V := ⟨U.toNat, by have := h2.low; omega⟩
  have hT : T ≤ 60 := by have := h1.high; omega
  have hV : V ≤ 60 := by have := h2.high; omega
  have C : Hid _ := Lib.hid (pchecked2_yes true s (T : Int) (by have := h1.size; omega) false t (V : Int) (by have := h2.size; omega) hk1 hk2)
  simp only [Int.toNat_natCast] at hM hX hY
  clear h1 h2 hk1 hk2 hX hY hM
  go_enter Tryz.func26, Tryz.ntmps26
  go_wp2_with (first
    | (refine wl_boxA rfl (.tmp 0) rfl rfl (fun W2 b2 hb2 => ?_))
    | (refine wl_boxA rfl (.tmp 1) rfl rfl (fun W3 b3 hb3 => ?_); have l2 := b2.lt; have l22 := hb2.size; replace b2 := b2.keep hb3; have l3 := b3.lt; have hB := below_step hb2 hb3; clear hb2 hb3)
    | (refine wl_loadA (ty := 23) b2 rfl (by kernel_rfl) _ rfl rfl ?_)
    | (refine wl_loadA (ty := 23) b3 rfl (by kernel_rfl) _ rfl rfl ?_)
    | (go_at_call 43; refine (C.out _ _ (by simp [World.cell?_alloc_new]) (by simp [World.cell?_alloc_new]) (by simp [World.cell?_alloc_new]) (by simp [World.cell?_alloc_new]) (by simp [World.cell?_alloc_new]) (by simp [World.cell?_alloc_new])).mono ?_; rintro e W5 ⟨rfl, hb⟩; replace hB := below_step (below_step hB (below_new _ _)) hb; replace b2 := (Blk.old b2 _).keep hb; replace b3 := (Blk.old b3 _).keep hb; clear hb)
    | (refine wl_loadC b2 rfl (by kernel_rfl) _ rfl (j := 0) rfl rfl ?_)
    | (refine wl_loadC b3 rfl (by kernel_rfl) _ rfl (j := 0) rfl rfl ?_)
    | (refine wl_loadC b2 rfl (by kernel_rfl) _ rfl (j := 2) rfl rfl ?_)
    | (refine wl_loadC b3 rfl (by kernel_rfl) _ rfl (j := 2) rfl rfl ?_))
  go_ret2
  exact ⟨rfl, hB⟩
set_option maxRecDepth 100000 in
set_option maxHeartbeats 4000000 in
theorem pCmp_ft (s : ByteArray) (S : Int) (t : ByteArray) (U : Int) (hk1 : okB false s S = true) (hk2 : okB true t U = true) (K X Y : Nat) (hM : max S.toNat U.toNat = K) (hX : Dc.val (bts s) * 10 ^ (K - S.toNat) = X) (hY : Dc.val (bts t) * 10 ^ (K - U.toNat) = Y) (w : World) : Calls Tryz.prog 26 #[.agg #[.bool false, .string s, .int .i64 S], .agg #[.bool true, .string t, .int .i64 U]] w fun e w' => e = .returned (.tuple #[.int .i64 1, .int .i64 0]) ∧ Below w.heap.size w w' := by
  have h1 := okB_ok hk1
  have h2 := okB_ok hk2
  obtain ⟨T, rfl⟩ : ∃ T : Nat, S = T := ⟨S.toNat, by have := h1.low; omega⟩
  obtain ⟨V, rfl⟩ : ∃ V : Nat, U = V := ⟨U.toNat, by have := h2.low; omega⟩
  have hT : T ≤ 60 := by have := h1.high; omega
  have hV : V ≤ 60 := by have := h2.high; omega
  have C : Hid _ := Lib.hid (pchecked2_yes false s (T : Int) (by have := h1.size; omega) true t (V : Int) (by have := h2.size; omega) hk1 hk2)
  simp only [Int.toNat_natCast] at hM hX hY
  clear h1 h2 hk1 hk2 hX hY hM
  go_enter Tryz.func26, Tryz.ntmps26
  go_wp2_with (first
    | (refine wl_boxA rfl (.tmp 0) rfl rfl (fun W2 b2 hb2 => ?_))
    | (refine wl_boxA rfl (.tmp 1) rfl rfl (fun W3 b3 hb3 => ?_); have l2 := b2.lt; have l22 := hb2.size; replace b2 := b2.keep hb3; have l3 := b3.lt; have hB := below_step hb2 hb3; clear hb2 hb3)
    | (refine wl_loadA (ty := 23) b2 rfl (by kernel_rfl) _ rfl rfl ?_)
    | (refine wl_loadA (ty := 23) b3 rfl (by kernel_rfl) _ rfl rfl ?_)
    | (go_at_call 43; refine (C.out _ _ (by simp [World.cell?_alloc_new]) (by simp [World.cell?_alloc_new]) (by simp [World.cell?_alloc_new]) (by simp [World.cell?_alloc_new]) (by simp [World.cell?_alloc_new]) (by simp [World.cell?_alloc_new])).mono ?_; rintro e W5 ⟨rfl, hb⟩; replace hB := below_step (below_step hB (below_new _ _)) hb; replace b2 := (Blk.old b2 _).keep hb; replace b3 := (Blk.old b3 _).keep hb; clear hb)
    | (refine wl_loadC b2 rfl (by kernel_rfl) _ rfl (j := 0) rfl rfl ?_)
    | (refine wl_loadC b3 rfl (by kernel_rfl) _ rfl (j := 0) rfl rfl ?_)
    | (refine wl_loadC b2 rfl (by kernel_rfl) _ rfl (j := 2) rfl rfl ?_)
    | (refine wl_loadC b3 rfl (by kernel_rfl) _ rfl (j := 2) rfl rfl ?_))
  go_ret2
  exact ⟨rfl, hB⟩
set_option maxRecDepth 100000 in
set_option maxHeartbeats 4000000 in
theorem pCmp_ff (s : ByteArray) (S : Int) (t : ByteArray) (U : Int) (hk1 : okB false s S = true) (hk2 : okB false t U = true) (K X Y : Nat) (hM : max S.toNat U.toNat = K) (hX : Dc.val (bts s) * 10 ^ (K - S.toNat) = X) (hY : Dc.val (bts t) * 10 ^ (K - U.toNat) = Y) (w : World) : Calls Tryz.prog 26 #[.agg #[.bool false, .string s, .int .i64 S], .agg #[.bool false, .string t, .int .i64 U]] w fun e w' => e = .returned (.tuple #[.int .i64 (Dc.ord X Y), .int .i64 0]) ∧ Below w.heap.size w w' := by
  have h1 := okB_ok hk1
  have h2 := okB_ok hk2
  obtain ⟨T, rfl⟩ : ∃ T : Nat, S = T := ⟨S.toNat, by have := h1.low; omega⟩
  obtain ⟨V, rfl⟩ : ∃ V : Nat, U = V := ⟨U.toNat, by have := h2.low; omega⟩
  have hT : T ≤ 60 := by have := h1.high; omega
  have hV : V ≤ 60 := by have := h2.high; omega
  have C : Hid _ := Lib.hid (pchecked2_yes false s (T : Int) (by have := h1.size; omega) false t (V : Int) (by have := h2.size; omega) hk1 hk2)
  simp only [Int.toNat_natCast] at hM hX hY
  have C1 : Hid _ := Lib.hid (pscaled_any false s T K h1.size h1.dig.all (by omega) (by omega))
  have C2 : Hid _ := Lib.hid (pscaled_any false t V K h2.size h2.dig.all (by omega) (by omega))
  rw [hX] at C1
  rw [hY] at C2
  have hmx : max (T : Int) (V : Int) = (K : Int) := by omega
  have hKl : K ≤ 60 := by omega
  clear h1 h2 hk1 hk2 hX hY hM
  go_enter Tryz.func26, Tryz.ntmps26
  go_wp2_with (first
    | (refine wl_boxA rfl (.tmp 0) rfl rfl (fun W2 b2 hb2 => ?_))
    | (refine wl_boxA rfl (.tmp 1) rfl rfl (fun W3 b3 hb3 => ?_); have l2 := b2.lt; have l22 := hb2.size; replace b2 := b2.keep hb3; have l3 := b3.lt; have hB := below_step hb2 hb3; clear hb2 hb3)
    | (refine wl_loadA (ty := 23) b2 rfl (by kernel_rfl) _ rfl rfl ?_)
    | (refine wl_loadA (ty := 23) b3 rfl (by kernel_rfl) _ rfl rfl ?_)
    | (go_at_call 43; refine (C.out _ _ (by simp [World.cell?_alloc_new]) (by simp [World.cell?_alloc_new]) (by simp [World.cell?_alloc_new]) (by simp [World.cell?_alloc_new]) (by simp [World.cell?_alloc_new]) (by simp [World.cell?_alloc_new])).mono ?_; rintro e W5 ⟨rfl, hb⟩; replace hB := below_step (below_step hB (below_new _ _)) hb; replace b2 := (Blk.old b2 _).keep hb; replace b3 := (Blk.old b3 _).keep hb; clear hb)
    | (refine wl_loadC b2 rfl (by kernel_rfl) _ rfl (j := 0) rfl rfl ?_)
    | (refine wl_loadC b3 rfl (by kernel_rfl) _ rfl (j := 0) rfl rfl ?_)
    | (refine wl_loadC b2 rfl (by kernel_rfl) _ rfl (j := 2) rfl rfl ?_)
    | (refine wl_loadC b3 rfl (by kernel_rfl) _ rfl (j := 2) rfl rfl ?_))
  refine wp_region_held_drew (S := fun W : World => Below w.heap.size w W ∧ Blk W w.heap.size 23 #[.bool false, .string s, .int .i64 (T : Int)] ∧ Blk W W2.heap.size 23 #[.bool false, .string t, .int .i64 (V : Int)]) (by kernel_rfl) ⟨below_step hB (below_drew _), b2.drew, b3.drew⟩ (fun hS => ?_)
  refine takeH (i := 0) (d := some 26) (v := ?v21) rfl rfl (by kernel_rfl) (by kernel_rfl) (by kernel_rfl) (fun _ _ _ h => h) (Or.inl ⟨by rfl, ?h21⟩) hS ?_
  case h21 => intro W _; go_simp; try with_reducible rfl
  simp only [Act.put, List.setIfInBounds_toArray, List.set_cons_zero, List.set_cons_succ]
  refine takeH (i := 1) (d := some 27) (v := _) rfl rfl (by kernel_rfl) (by kernel_rfl) (by kernel_rfl) (fun _ _ _ h => h) (yields_A rfl (by rfl) (by kernel_rfl) _ rfl rfl (fun W hW => hW.2.1)) hS ?_
  simp only [Act.put, List.setIfInBounds_toArray, List.set_cons_zero, List.set_cons_succ]
  refine takeH (i := 2) (d := some 28) (v := ?v22) rfl rfl (by kernel_rfl) (by kernel_rfl) (by kernel_rfl) (fun _ _ _ h => h) (Or.inl ⟨by rfl, ?h22⟩) hS ?_
  case h22 => intro W _; go_simp; try with_reducible rfl
  simp only [Act.put, List.setIfInBounds_toArray, List.set_cons_zero, List.set_cons_succ]
  refine takeH (i := 4) (d := some 30) (v := _) rfl rfl (by kernel_rfl) (by kernel_rfl) (by kernel_rfl) (fun _ _ _ h => h) (yields_A rfl (by rfl) (by kernel_rfl) _ rfl rfl (fun W hW => hW.2.2)) hS ?_
  simp only [Act.put, List.setIfInBounds_toArray, List.set_cons_zero, List.set_cons_succ]
  refine takeH (i := 5) (d := some 31) (v := ?v23) rfl rfl (by kernel_rfl) (by kernel_rfl) (by kernel_rfl) (fun _ _ _ h => h) (Or.inl ⟨by rfl, ?h23⟩) hS ?_
  case h23 => intro W _; go_simp; try with_reducible rfl
  simp only [Act.put, List.setIfInBounds_toArray, List.set_cons_zero, List.set_cons_succ]
  refine wpAnyH_ready (rs := [3]) (by kernel_rfl) (by simp) ?_
  refine AllReadyH.cons rfl (fun Kc hKc => ?_) AllReadyH.nil
  go_simp
  refine (C1.out _).mono ?_
  rintro e W6 ⟨⟨A, rfl, hA⟩, hb⟩
  have HA : Hid _ := Lib.hid hA
  clear hA
  refine hKc.out _ _ ⟨below_step hS.1 hb, hS.2.1.keep hb, hS.2.2.keep hb⟩ (fun hS => ?_)
  clear hKc Kc
  refine wpAnyH_ready (rs := [6]) (by kernel_rfl) (by simp) ?_
  refine AllReadyH.cons rfl (fun Kc hKc => ?_) AllReadyH.nil
  go_simp
  refine (C2.out _).mono ?_
  rintro e W7 ⟨⟨B, rfl, hB3⟩, hb⟩
  have HB : Hid _ := Lib.hid hB3
  clear hB3
  refine hKc.out _ _ ⟨below_step hS.1 hb, hS.2.1.keep hb, hS.2.2.keep hb⟩ (fun hS => ?_)
  clear hKc Kc
  refine wpAnyH_ready (rs := [7]) (by kernel_rfl) (by simp) ?_
  refine AllReadyH.cons rfl (fun Kc hKc => ?_) AllReadyH.nil
  go_simp
  refine (pcmp_ord A B HA.out.1 HB.out.1 X Y HA.out.2 HB.out.2 _).mono ?_
  rintro e W8 ⟨⟨z, rfl, z1, z2, hz⟩, hb⟩
  have HZ : Hid _ := Lib.hid hz
  clear hz
  refine hKc.out _ _ ⟨below_step hS.1 hb, hS.2.1.keep hb, hS.2.2.keep hb⟩ (fun hS => ?_)
  clear hKc Kc
  refine takeH (i := 8) (d := some 34) (v := ?v24) rfl rfl (by kernel_rfl) (by kernel_rfl) (by kernel_rfl) (fun _ _ _ h => h) (Or.inl ⟨by rfl, ?h24⟩) hS ?_
  case h24 => intro W _; have wz1 : IntKind.i64.wrap z = z := (by rw [IntKind.wrap_i64]; omega); have wz2 : IntKind.i64.wrap (-z) = -z := (by rw [IntKind.wrap_i64]; omega); go_simp; try with_reducible rfl
  simp only [Act.put, List.setIfInBounds_toArray, List.set_cons_zero, List.set_cons_succ]
  refine takeH (i := 9) (d := some 4) (v := ?v25) rfl rfl (by kernel_rfl) (by kernel_rfl) (by kernel_rfl) (fun _ _ _ h => h) (Or.inl ⟨by rfl, ?h25⟩) hS ?_
  case h25 => intro W _; go_simp; try with_reducible rfl
  simp only [Act.put, List.setIfInBounds_toArray, List.set_cons_zero, List.set_cons_succ]
  refine takeH (i := 10) (d := some 5) (v := ?v26) rfl rfl (by kernel_rfl) (by kernel_rfl) (by kernel_rfl) (fun _ _ _ h => h) (Or.inl ⟨by rfl, ?h26⟩) hS ?_
  case h26 => intro W _; go_simp; try with_reducible rfl
  simp only [Act.put, List.setIfInBounds_toArray, List.set_cons_zero, List.set_cons_succ]
  refine wpAnyH_done (by kernel_rfl) ?_ _
  go_wp2
  go_ret2
  exact ⟨ret_two (by have := HZ.out; omega) rfl, hS.1⟩
theorem pcmp_is (n : Bool) (s : ByteArray) (S : Int) (m : Bool) (t : ByteArray) (U : Int) (hs : s.size ≤ 1000000) (ht : t.size ≤ 1000000) (z k : Int) (hr : cmpR n s S m t U = (z, k)) (w : World) : Calls Tryz.prog 26 #[.agg #[.bool n, .string s, .int .i64 S], .agg #[.bool m, .string t, .int .i64 U]] w fun e w' => e = .returned (.tuple #[.int .i64 z, .int .i64 k]) ∧ Below w.heap.size w w' := by
  unfold cmpR at hr
  cases h1 : okB n s S with
  | false =>
    rw [if_neg (by rw [h1]; simp)] at hr; cases hr
    exact pCmp_no1 n s S m t U hs h1 w
  | true =>
    cases h2 : okB m t U with
    | false =>
      rw [if_neg (by rw [h2]; simp)] at hr; cases hr
      exact pCmp_no2 n s S m t U hs ht h1 h2 w
    | true =>
      rw [if_pos ⟨h1, h2⟩] at hr; cases hr
      have k1 := okB_ok h1
      have k2 := okB_ok h2
      cases n <;> cases m
      · rw [show Dc.cmpD (rawD false s S) (rawD false t U) = _ from Dc.cmpD_pos _ _ _ _ rfl rfl rfl]
        exact pCmp_ff s S t U h1 h2 _ _ _ rfl rfl rfl w
      · rw [Dc.cmpD_pn k1.can k2.can rfl rfl]
        exact pCmp_ft s S t U h1 h2 _ _ _ rfl rfl rfl w
      · rw [Dc.cmpD_np k1.can k2.can rfl rfl]
        exact pCmp_tf s S t U h1 h2 _ _ _ rfl rfl rfl w
      · rw [show Dc.cmpD (rawD true s S) (rawD true t U) = _ from Dc.cmpD_neg _ _ _ _ rfl rfl rfl]
        exact pCmp_tt s S t U h1 h2 _ _ _ rfl rfl rfl w
end Go.Proofs.YthmmjihldkjhhaaGreatDoor
