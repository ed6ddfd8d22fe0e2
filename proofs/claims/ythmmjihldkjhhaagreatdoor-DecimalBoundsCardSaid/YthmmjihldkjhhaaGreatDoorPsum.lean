/-
  What 'sum' of the program returns.
-/
import Derived.Test.YthmmjihldkjhhaaGreatDoorPscaled
import Derived.Test.YthmmjihldkjhhaaGreatDoorRes
import Derived.Test.YthmmjihldkjhhaaGreatDoorPof
import Derived.Test.YthmmjihldkjhhaaGreatDoorPover
namespace Go.Proofs.YthmmjihldkjhhaaGreatDoor
open Go Go.RowKit

theorem zero_dec : (Tryz.prog.info? 23).bind (·.zero) = some (.agg #[.bool false, .string ⟨#[]⟩, .int .i64 0]) := by kernel_rfl
theorem pof_is (neg : Bool) (s : ByteArray) (S : Nat) (hs : s.size ≤ 1000) (hS : S ≤ 1000) (hd : (bts s).all Dc.dig = true) (r : Res) (hr : resOf (Dc.can neg (Dc.val (bts s)) S) = r) (w : World) : Calls Tryz.prog 40 #[.bool neg, .string s, .int .i64 (S : Int)] w fun e w' => e = .returned (.tuple #[.agg #[.bool r.n, .string r.s, .int .i64 r.S], .int .i64 r.k]) ∧ Below w.heap.size w w' :=
  (pof_any neg s S hs hS hd w).mono fun _ _ ⟨he, hb⟩ => ⟨he.trans (made_is hr), hb⟩
/-- The number of digits of what 'digits' gives. -/
theorem digs_size {u : ByteArray} {x k : Nat} (h : bts u = Dc.digs x) (hx : x < 10 ^ k) (hk : 1 ≤ k) : u.size ≤ k := by
  rw [← bts_length, h]; exact (Dc.digs_length hk).2 hx
theorem digs_all {u : ByteArray} {x : Nat} (h : bts u = Dc.digs x) : (bts u).all Dc.dig = true := by rw [h]; exact Dc.digs_dig x
theorem val_of {u : ByteArray} {x : Nat} (h : bts u = Dc.digs x) : Dc.val (bts u) = x := by rw [h, Dc.val_digs]
theorem scaled_low {s : ByteArray} {c : Nat} (hs : s.size ≤ 60) (hd : (bts s).all Dc.dig = true) (hc : c ≤ 60) : Dc.val (bts s) * 10 ^ c < 10 ^ 120 := by
  have h1 := Dc.val_lt hd
  rw [bts_length] at h1
  have h2 : (10 : Nat) ^ s.size ≤ 10 ^ 60 := Nat.pow_le_pow_right (by decide) hs
  have h3 : (10 : Nat) ^ c ≤ 10 ^ 60 := Nat.pow_le_pow_right (by decide) hc
  calc Dc.val (bts s) * 10 ^ c ≤ Dc.val (bts s) * 10 ^ 60 := Nat.mul_le_mul_left _ h3
    _ < 10 ^ 60 * 10 ^ 60 := Nat.mul_lt_mul_of_pos_right (Nat.lt_of_lt_of_le h1 h2) (Dc.pow10_pos 60)
    _ = 10 ^ 120 := by rw [← Nat.pow_add]
theorem lt_top {x k : Nat} (h : x < 10 ^ k) (hk : k ≤ 216) : x < top := by
  rw [top_pow]; exact Nat.lt_of_lt_of_le h (Nat.pow_le_pow_right (by decide) hk)
set_option maxRecDepth 100000 in
set_option maxHeartbeats 16000000 in
theorem psum_any (n m : Bool) (s t : ByteArray) (T U M : Nat) (hM : max T U = M) (hs : s.size ≤ 60) (ht : t.size ≤ 60) (hT : T ≤ 60) (hU : U ≤ 60) (hd1 : (bts s).all Dc.dig = true) (hd2 : (bts t).all Dc.dig = true) (r : Res) (hr : resOf (Dc.addD (n, Dc.val (bts s), T) (m, Dc.val (bts t), U)) = r) (w : World) (hP : Pow w) : Calls Tryz.prog 59 #[.agg #[.bool n, .string s, .int .i64 (T : Int)], .agg #[.bool m, .string t, .int .i64 (U : Int)]] w fun e w' => e = .returned (.tuple #[.agg #[.bool r.n, .string r.s, .int .i64 r.S], .int .i64 r.k]) ∧ Below w.heap.size w w' := by
  have C1 : Hid _ := Lib.hid (pscaled_any n s T M hs hd1 (by omega) (by omega))
  have C2 : Hid _ := Lib.hid (pscaled_any m t U M ht hd2 (by omega) (by omega))
  have x1 := scaled_low (c := M - T) hs hd1 (by omega)
  have x2 := scaled_low (c := M - U) ht hd2 (by omega)
  obtain ⟨X, hX⟩ : ∃ X, Dc.val (bts s) * 10 ^ (M - T) = X := ⟨_, rfl⟩
  obtain ⟨Y, hY⟩ : ∃ Y, Dc.val (bts t) * 10 ^ (M - U) = Y := ⟨_, rfl⟩
  rw [hX] at C1 x1
  rw [hY] at C2 x2
  have R1 : Hid (n = m → resOf (Dc.can n (X + Y) M) = r) := Lib.hid (fun e => by subst e; rw [← Dc.addD_same n _ _ _ _ hM hX hY]; exact hr)
  have R2 : Hid (m = !n → X < Y → resOf (Dc.can m (Y - X) M) = r) := Lib.hid (fun e h => by subst e; rw [← Dc.addD_lt n _ _ _ _ hM hX hY h]; exact hr)
  have R3 : Hid (m = !n → Y ≤ X → resOf (Dc.can n (X - Y) M) = r) := Lib.hid (fun e h => by subst e; rw [← Dc.addD_ge n _ _ _ _ hM hX hY h]; exact hr)
  have HX : Hid (X < 10 ^ 120) := Lib.hid x1
  have HY : Hid (Y < 10 ^ 120) := Lib.hid x2
  have HP : Hid _ := Lib.hid hP
  have hmx : max (T : Int) (U : Int) = (M : Int) := by omega
  have hMl : M ≤ 60 := by omega
  have h0 : Hid ((10 : Nat) ^ 120 + 10 ^ 120 ≤ 10 ^ 121) := Lib.hid (by rw [Nat.pow_succ 10 120]; omega)
  clear hX hY x1 x2 hr hP hM hd1 hd2
  go_enter Tryz.func59, Tryz.ntmps59
  go_wp2_with (first
    | (refine wl_boxA rfl (.tmp 0) rfl rfl (fun W2 b2 hb2 => ?_))
    | (refine wl_boxA rfl (.tmp 1) rfl rfl (fun W3 b3 hb3 => ?_); replace b2 := b2.keep hb3; have l2 := b2.lt; have l23 := hb2.size; have l23' := b3.lt)
    | (refine wl_allocA rfl zero_dec rfl (fun W4 b4 hb4 => ?_); have l3 := b3.lt; replace b2 := b2.keep hb4; replace b3 := b3.keep hb4; have hB := below_step (below_step hb2 hb3) hb4; clear hb2 hb3 hb4)
    | (refine wl_loadC b2 rfl (by kernel_rfl) _ rfl (j := 2) rfl rfl ?_)
    | (refine wl_loadC b3 rfl (by kernel_rfl) _ rfl (j := 2) rfl rfl ?_))
  go_cut [7, 8] (fun x y W => ∃ g7 g8 A B, x = .pointer (some ⟨g7, 0, none⟩) ∧ y = .pointer (some ⟨g8, 0, none⟩) ∧ W3.heap.size < g7 ∧ W3.heap.size < g8 ∧ Hid (Num A ∧ Dc.valB A = X) ∧ Hid (Num B ∧ Dc.valB B = Y) ∧ Row24 W g7 A ∧ Row24 W g8 B ∧ Below w.heap.size w W ∧ Blk W w.heap.size 23 #[.bool n, .string s, .int .i64 (T : Int)] ∧ Blk W W2.heap.size 23 #[.bool m, .string t, .int .i64 (U : Int)] ∧ Blk W W3.heap.size 23 #[.bool false, .string ⟨#[]⟩, .int .i64 0])
  case first =>
    refine wp_region_held_drew (S := fun W : World => Below w.heap.size w W ∧ Blk W w.heap.size 23 #[.bool n, .string s, .int .i64 (T : Int)] ∧ Blk W W2.heap.size 23 #[.bool m, .string t, .int .i64 (U : Int)] ∧ Blk W W3.heap.size 23 #[.bool false, .string ⟨#[]⟩, .int .i64 0]) (by kernel_rfl) ⟨below_step hB (below_drew _), b2.drew, b3.drew, b4.drew⟩ (fun hS => ?_)
    refine takeH (i := 0) (d := some 14) (v := _) rfl rfl (by kernel_rfl) (by kernel_rfl) (by kernel_rfl) (fun _ _ _ h => h) (yields_A rfl (by rfl) (by kernel_rfl) _ rfl rfl (fun W hW => hW.2.1)) hS ?_
    simp only [Act.put, List.setIfInBounds_toArray, List.set_cons_zero, List.set_cons_succ]
    refine takeH (i := 1) (d := some 15) (v := ?v1) rfl rfl (by kernel_rfl) (by kernel_rfl) (by kernel_rfl) (fun _ _ _ h => h) (Or.inl ⟨by rfl, ?h1⟩) hS ?_
    case h1 => intro W _; go_simp; try with_reducible rfl
    simp only [Act.put, List.setIfInBounds_toArray, List.set_cons_zero, List.set_cons_succ]
    refine takeH (i := 3) (d := some 17) (v := _) rfl rfl (by kernel_rfl) (by kernel_rfl) (by kernel_rfl) (fun _ _ _ h => h) (yields_A rfl (by rfl) (by kernel_rfl) _ rfl rfl (fun W hW => hW.2.2.1)) hS ?_
    simp only [Act.put, List.setIfInBounds_toArray, List.set_cons_zero, List.set_cons_succ]
    refine takeH (i := 4) (d := some 18) (v := ?v2) rfl rfl (by kernel_rfl) (by kernel_rfl) (by kernel_rfl) (fun _ _ _ h => h) (Or.inl ⟨by rfl, ?h2⟩) hS ?_
    case h2 => intro W _; go_simp; try with_reducible rfl
    simp only [Act.put, List.setIfInBounds_toArray, List.set_cons_zero, List.set_cons_succ]
    refine wpAnyH_ready (rs := [2, 6, 7]) (by kernel_rfl) (by simp) ?_
    refine AllReadyH.cons rfl (fun Kc hKc => ?_) ?_
    ·   skip
        go_simp
        refine (C1.out _).mono ?_
        rintro e W1 ⟨⟨A, rfl, hA⟩, hb⟩
        have HA : Hid _ := Lib.hid hA
        have hAl := hA.1.len
        clear hA
        (try replace r7 := r7.keep hb)
        (try replace r8 := r8.keep hb)
        refine hKc.out _ _ ⟨below_step hS.1 hb, hS.2.1.keep hb, hS.2.2.1.keep hb, hS.2.2.2.keep hb⟩ (fun hS => ?_)
        clear hKc Kc
        refine wpAnyH_ready (rs := [5, 6, 7]) (by kernel_rfl) (by simp) ?_
        refine AllReadyH.cons rfl (fun Kc hKc => ?_) ?_
        ·   skip
            go_simp
            refine (C2.out _).mono ?_
            rintro e W1 ⟨⟨B, rfl, hB2⟩, hb⟩
            have HB2 : Hid _ := Lib.hid hB2
            have hBl := hB2.1.len
            clear hB2
            (try replace r7 := r7.keep hb)
            (try replace r8 := r8.keep hb)
            refine hKc.out _ _ ⟨below_step hS.1 hb, hS.2.1.keep hb, hS.2.2.1.keep hb, hS.2.2.2.keep hb⟩ (fun hS => ?_)
            clear hKc Kc
            refine wpAnyH_ready (rs := [6, 7]) (by kernel_rfl) (by simp) ?_
            refine AllReadyH.cons rfl (fun Kc hKc => ?_) ?_
            ·   skip
                have l7 := hS.2.2.2.lt
                (try have hne := (Nat.ne_of_lt r8.lt).symm)
                refine st_of rfl (wp_allocA zero_num rfl (d := some 7) rfl (fun W1 a7 hb => ?_))
                (try replace r8 := r8.keep hb)
                have r7 : Row24 W1 _ (List.replicate 24 0) := ⟨a7, rfl⟩
                clear a7
                refine hKc.out _ _ ⟨below_step hS.1 hb, hS.2.1.keep hb, hS.2.2.1.keep hb, hS.2.2.2.keep hb⟩ (fun hS => ?_)
                clear hKc Kc
                simp only [Act.put, List.setIfInBounds_toArray, List.set_cons_zero, List.set_cons_succ]
                refine wpAnyH_ready (rs := [7]) (by kernel_rfl) (by simp) ?_
                refine AllReadyH.cons rfl (fun Kc hKc => ?_) AllReadyH.nil
                have l8 := hS.2.2.2.lt
                (try have hne := Nat.ne_of_lt r7.lt)
                refine st_of rfl (wp_allocA zero_num rfl (d := some 8) rfl (fun W1 a8 hb => ?_))
                (try replace r7 := r7.keep hb)
                have r8 : Row24 W1 _ (List.replicate 24 0) := ⟨a8, rfl⟩
                clear a8
                refine hKc.out _ _ ⟨below_step hS.1 hb, hS.2.1.keep hb, hS.2.2.1.keep hb, hS.2.2.2.keep hb⟩ (fun hS => ?_)
                clear hKc Kc
                simp only [Act.put, List.setIfInBounds_toArray, List.set_cons_zero, List.set_cons_succ]
                refine wpAnyH_ready (rs := [8]) (by kernel_rfl) (by simp) ?_
                refine AllReadyH.cons rfl (fun Kc hKc => ?_) AllReadyH.nil
                refine st_of rfl (wp_storeA r7.blk _ _ rfl rfl rfl (agg_num hAl) (by rw [numV_size, numV_size, hAl]; rfl) (numV_oneL A) rfl (fun W1 a7 hg => ?_))
                replace r8 := r8.far hg hne.symm
                replace r7 : Row24 W1 _ A := ⟨a7, hAl⟩
                clear a7
                refine hKc.out _ _ ⟨below_far hS.1 hS.1.size (by omega) hg, hS.2.1.far hg (by omega), hS.2.2.1.far hg (by omega), hS.2.2.2.far hg (by omega)⟩ (fun hS => ?_)
                clear hKc Kc
                refine wpAnyH_ready (rs := [9]) (by kernel_rfl) (by simp) ?_
                refine AllReadyH.cons rfl (fun Kc hKc => ?_) AllReadyH.nil
                refine st_of rfl (wp_storeA r8.blk _ _ rfl rfl rfl (agg_num hBl) (by rw [numV_size, numV_size, hBl]; rfl) (numV_oneL B) rfl (fun W1 a8 hg => ?_))
                replace r7 := r7.far hg hne
                replace r8 : Row24 W1 _ B := ⟨a8, hBl⟩
                clear a8
                refine hKc.out _ _ ⟨below_far hS.1 hS.1.size (by omega) hg, hS.2.1.far hg (by omega), hS.2.2.1.far hg (by omega), hS.2.2.2.far hg (by omega)⟩ (fun hS => ?_)
                clear hKc Kc
                refine wpAnyH_done (by kernel_rfl) ?_ _
                go_wp2_with fail
                go_meet
                exact ⟨_, _, A, B, rfl, rfl, l7, l8, Lib.hid HA.out, Lib.hid HB2.out, r7, r8, hS.1, hS.2.1, hS.2.2.1, hS.2.2.2⟩
            refine AllReadyH.cons rfl (fun Kc hKc => ?_) AllReadyH.nil
            have l8 := hS.2.2.2.lt
            (try have hne := Nat.ne_of_lt r7.lt)
            refine st_of rfl (wp_allocA zero_num rfl (d := some 8) rfl (fun W1 a8 hb => ?_))
            (try replace r7 := r7.keep hb)
            have r8 : Row24 W1 _ (List.replicate 24 0) := ⟨a8, rfl⟩
            clear a8
            refine hKc.out _ _ ⟨below_step hS.1 hb, hS.2.1.keep hb, hS.2.2.1.keep hb, hS.2.2.2.keep hb⟩ (fun hS => ?_)
            clear hKc Kc
            simp only [Act.put, List.setIfInBounds_toArray, List.set_cons_zero, List.set_cons_succ]
            refine wpAnyH_ready (rs := [6]) (by kernel_rfl) (by simp) ?_
            refine AllReadyH.cons rfl (fun Kc hKc => ?_) AllReadyH.nil
            have l7 := hS.2.2.2.lt
            (try have hne := (Nat.ne_of_lt r8.lt).symm)
            refine st_of rfl (wp_allocA zero_num rfl (d := some 7) rfl (fun W1 a7 hb => ?_))
            (try replace r8 := r8.keep hb)
            have r7 : Row24 W1 _ (List.replicate 24 0) := ⟨a7, rfl⟩
            clear a7
            refine hKc.out _ _ ⟨below_step hS.1 hb, hS.2.1.keep hb, hS.2.2.1.keep hb, hS.2.2.2.keep hb⟩ (fun hS => ?_)
            clear hKc Kc
            simp only [Act.put, List.setIfInBounds_toArray, List.set_cons_zero, List.set_cons_succ]
            refine wpAnyH_ready (rs := [8]) (by kernel_rfl) (by simp) ?_
            refine AllReadyH.cons rfl (fun Kc hKc => ?_) AllReadyH.nil
            refine st_of rfl (wp_storeA r7.blk _ _ rfl rfl rfl (agg_num hAl) (by rw [numV_size, numV_size, hAl]; rfl) (numV_oneL A) rfl (fun W1 a7 hg => ?_))
            replace r8 := r8.far hg hne.symm
            replace r7 : Row24 W1 _ A := ⟨a7, hAl⟩
            clear a7
            refine hKc.out _ _ ⟨below_far hS.1 hS.1.size (by omega) hg, hS.2.1.far hg (by omega), hS.2.2.1.far hg (by omega), hS.2.2.2.far hg (by omega)⟩ (fun hS => ?_)
            clear hKc Kc
            refine wpAnyH_ready (rs := [9]) (by kernel_rfl) (by simp) ?_
            refine AllReadyH.cons rfl (fun Kc hKc => ?_) AllReadyH.nil
            refine st_of rfl (wp_storeA r8.blk _ _ rfl rfl rfl (agg_num hBl) (by rw [numV_size, numV_size, hBl]; rfl) (numV_oneL B) rfl (fun W1 a8 hg => ?_))
            replace r7 := r7.far hg hne
            replace r8 : Row24 W1 _ B := ⟨a8, hBl⟩
            clear a8
            refine hKc.out _ _ ⟨below_far hS.1 hS.1.size (by omega) hg, hS.2.1.far hg (by omega), hS.2.2.1.far hg (by omega), hS.2.2.2.far hg (by omega)⟩ (fun hS => ?_)
            clear hKc Kc
            refine wpAnyH_done (by kernel_rfl) ?_ _
            go_wp2_with fail
            go_meet
            exact ⟨_, _, A, B, rfl, rfl, l7, l8, Lib.hid HA.out, Lib.hid HB2.out, r7, r8, hS.1, hS.2.1, hS.2.2.1, hS.2.2.2⟩
        refine AllReadyH.cons rfl (fun Kc hKc => ?_) ?_
        ·   skip
            have l7 := hS.2.2.2.lt
            (try have hne := (Nat.ne_of_lt r8.lt).symm)
            refine st_of rfl (wp_allocA zero_num rfl (d := some 7) rfl (fun W1 a7 hb => ?_))
            (try replace r8 := r8.keep hb)
            have r7 : Row24 W1 _ (List.replicate 24 0) := ⟨a7, rfl⟩
            clear a7
            refine hKc.out _ _ ⟨below_step hS.1 hb, hS.2.1.keep hb, hS.2.2.1.keep hb, hS.2.2.2.keep hb⟩ (fun hS => ?_)
            clear hKc Kc
            simp only [Act.put, List.setIfInBounds_toArray, List.set_cons_zero, List.set_cons_succ]
            refine wpAnyH_ready (rs := [5, 7]) (by kernel_rfl) (by simp) ?_
            refine AllReadyH.cons rfl (fun Kc hKc => ?_) ?_
            ·   skip
                go_simp
                refine (C2.out _).mono ?_
                rintro e W1 ⟨⟨B, rfl, hB2⟩, hb⟩
                have HB2 : Hid _ := Lib.hid hB2
                have hBl := hB2.1.len
                clear hB2
                (try replace r7 := r7.keep hb)
                (try replace r8 := r8.keep hb)
                refine hKc.out _ _ ⟨below_step hS.1 hb, hS.2.1.keep hb, hS.2.2.1.keep hb, hS.2.2.2.keep hb⟩ (fun hS => ?_)
                clear hKc Kc
                refine wpAnyH_ready (rs := [7]) (by kernel_rfl) (by simp) ?_
                refine AllReadyH.cons rfl (fun Kc hKc => ?_) AllReadyH.nil
                have l8 := hS.2.2.2.lt
                (try have hne := Nat.ne_of_lt r7.lt)
                refine st_of rfl (wp_allocA zero_num rfl (d := some 8) rfl (fun W1 a8 hb => ?_))
                (try replace r7 := r7.keep hb)
                have r8 : Row24 W1 _ (List.replicate 24 0) := ⟨a8, rfl⟩
                clear a8
                refine hKc.out _ _ ⟨below_step hS.1 hb, hS.2.1.keep hb, hS.2.2.1.keep hb, hS.2.2.2.keep hb⟩ (fun hS => ?_)
                clear hKc Kc
                simp only [Act.put, List.setIfInBounds_toArray, List.set_cons_zero, List.set_cons_succ]
                refine wpAnyH_ready (rs := [8]) (by kernel_rfl) (by simp) ?_
                refine AllReadyH.cons rfl (fun Kc hKc => ?_) AllReadyH.nil
                refine st_of rfl (wp_storeA r7.blk _ _ rfl rfl rfl (agg_num hAl) (by rw [numV_size, numV_size, hAl]; rfl) (numV_oneL A) rfl (fun W1 a7 hg => ?_))
                replace r8 := r8.far hg hne.symm
                replace r7 : Row24 W1 _ A := ⟨a7, hAl⟩
                clear a7
                refine hKc.out _ _ ⟨below_far hS.1 hS.1.size (by omega) hg, hS.2.1.far hg (by omega), hS.2.2.1.far hg (by omega), hS.2.2.2.far hg (by omega)⟩ (fun hS => ?_)
                clear hKc Kc
                refine wpAnyH_ready (rs := [9]) (by kernel_rfl) (by simp) ?_
                refine AllReadyH.cons rfl (fun Kc hKc => ?_) AllReadyH.nil
                refine st_of rfl (wp_storeA r8.blk _ _ rfl rfl rfl (agg_num hBl) (by rw [numV_size, numV_size, hBl]; rfl) (numV_oneL B) rfl (fun W1 a8 hg => ?_))
                replace r7 := r7.far hg hne
                replace r8 : Row24 W1 _ B := ⟨a8, hBl⟩
                clear a8
                refine hKc.out _ _ ⟨below_far hS.1 hS.1.size (by omega) hg, hS.2.1.far hg (by omega), hS.2.2.1.far hg (by omega), hS.2.2.2.far hg (by omega)⟩ (fun hS => ?_)
                clear hKc Kc
                refine wpAnyH_done (by kernel_rfl) ?_ _
                go_wp2_with fail
                go_meet
                exact ⟨_, _, A, B, rfl, rfl, l7, l8, Lib.hid HA.out, Lib.hid HB2.out, r7, r8, hS.1, hS.2.1, hS.2.2.1, hS.2.2.2⟩
            refine AllReadyH.cons rfl (fun Kc hKc => ?_) AllReadyH.nil
            have l8 := hS.2.2.2.lt
            (try have hne := Nat.ne_of_lt r7.lt)
            refine st_of rfl (wp_allocA zero_num rfl (d := some 8) rfl (fun W1 a8 hb => ?_))
            (try replace r7 := r7.keep hb)
            have r8 : Row24 W1 _ (List.replicate 24 0) := ⟨a8, rfl⟩
            clear a8
            refine hKc.out _ _ ⟨below_step hS.1 hb, hS.2.1.keep hb, hS.2.2.1.keep hb, hS.2.2.2.keep hb⟩ (fun hS => ?_)
            clear hKc Kc
            simp only [Act.put, List.setIfInBounds_toArray, List.set_cons_zero, List.set_cons_succ]
            refine wpAnyH_ready (rs := [5]) (by kernel_rfl) (by simp) ?_
            refine AllReadyH.cons rfl (fun Kc hKc => ?_) AllReadyH.nil
            go_simp
            refine (C2.out _).mono ?_
            rintro e W1 ⟨⟨B, rfl, hB2⟩, hb⟩
            have HB2 : Hid _ := Lib.hid hB2
            have hBl := hB2.1.len
            clear hB2
            (try replace r7 := r7.keep hb)
            (try replace r8 := r8.keep hb)
            refine hKc.out _ _ ⟨below_step hS.1 hb, hS.2.1.keep hb, hS.2.2.1.keep hb, hS.2.2.2.keep hb⟩ (fun hS => ?_)
            clear hKc Kc
            refine wpAnyH_ready (rs := [8]) (by kernel_rfl) (by simp) ?_
            refine AllReadyH.cons rfl (fun Kc hKc => ?_) AllReadyH.nil
            refine st_of rfl (wp_storeA r7.blk _ _ rfl rfl rfl (agg_num hAl) (by rw [numV_size, numV_size, hAl]; rfl) (numV_oneL A) rfl (fun W1 a7 hg => ?_))
            replace r8 := r8.far hg hne.symm
            replace r7 : Row24 W1 _ A := ⟨a7, hAl⟩
            clear a7
            refine hKc.out _ _ ⟨below_far hS.1 hS.1.size (by omega) hg, hS.2.1.far hg (by omega), hS.2.2.1.far hg (by omega), hS.2.2.2.far hg (by omega)⟩ (fun hS => ?_)
            clear hKc Kc
            refine wpAnyH_ready (rs := [9]) (by kernel_rfl) (by simp) ?_
            refine AllReadyH.cons rfl (fun Kc hKc => ?_) AllReadyH.nil
            refine st_of rfl (wp_storeA r8.blk _ _ rfl rfl rfl (agg_num hBl) (by rw [numV_size, numV_size, hBl]; rfl) (numV_oneL B) rfl (fun W1 a8 hg => ?_))
            replace r7 := r7.far hg hne
            replace r8 : Row24 W1 _ B := ⟨a8, hBl⟩
            clear a8
            refine hKc.out _ _ ⟨below_far hS.1 hS.1.size (by omega) hg, hS.2.1.far hg (by omega), hS.2.2.1.far hg (by omega), hS.2.2.2.far hg (by omega)⟩ (fun hS => ?_)
            clear hKc Kc
            refine wpAnyH_done (by kernel_rfl) ?_ _
            go_wp2_with fail
            go_meet
            exact ⟨_, _, A, B, rfl, rfl, l7, l8, Lib.hid HA.out, Lib.hid HB2.out, r7, r8, hS.1, hS.2.1, hS.2.2.1, hS.2.2.2⟩
        refine AllReadyH.cons rfl (fun Kc hKc => ?_) AllReadyH.nil
        have l8 := hS.2.2.2.lt
        (try have hne := Nat.ne_of_lt r7.lt)
        refine st_of rfl (wp_allocA zero_num rfl (d := some 8) rfl (fun W1 a8 hb => ?_))
        (try replace r7 := r7.keep hb)
        have r8 : Row24 W1 _ (List.replicate 24 0) := ⟨a8, rfl⟩
        clear a8
        refine hKc.out _ _ ⟨below_step hS.1 hb, hS.2.1.keep hb, hS.2.2.1.keep hb, hS.2.2.2.keep hb⟩ (fun hS => ?_)
        clear hKc Kc
        simp only [Act.put, List.setIfInBounds_toArray, List.set_cons_zero, List.set_cons_succ]
        refine wpAnyH_ready (rs := [5, 6]) (by kernel_rfl) (by simp) ?_
        refine AllReadyH.cons rfl (fun Kc hKc => ?_) ?_
        ·   skip
            go_simp
            refine (C2.out _).mono ?_
            rintro e W1 ⟨⟨B, rfl, hB2⟩, hb⟩
            have HB2 : Hid _ := Lib.hid hB2
            have hBl := hB2.1.len
            clear hB2
            (try replace r7 := r7.keep hb)
            (try replace r8 := r8.keep hb)
            refine hKc.out _ _ ⟨below_step hS.1 hb, hS.2.1.keep hb, hS.2.2.1.keep hb, hS.2.2.2.keep hb⟩ (fun hS => ?_)
            clear hKc Kc
            refine wpAnyH_ready (rs := [6]) (by kernel_rfl) (by simp) ?_
            refine AllReadyH.cons rfl (fun Kc hKc => ?_) AllReadyH.nil
            have l7 := hS.2.2.2.lt
            (try have hne := (Nat.ne_of_lt r8.lt).symm)
            refine st_of rfl (wp_allocA zero_num rfl (d := some 7) rfl (fun W1 a7 hb => ?_))
            (try replace r8 := r8.keep hb)
            have r7 : Row24 W1 _ (List.replicate 24 0) := ⟨a7, rfl⟩
            clear a7
            refine hKc.out _ _ ⟨below_step hS.1 hb, hS.2.1.keep hb, hS.2.2.1.keep hb, hS.2.2.2.keep hb⟩ (fun hS => ?_)
            clear hKc Kc
            simp only [Act.put, List.setIfInBounds_toArray, List.set_cons_zero, List.set_cons_succ]
            refine wpAnyH_ready (rs := [8]) (by kernel_rfl) (by simp) ?_
            refine AllReadyH.cons rfl (fun Kc hKc => ?_) AllReadyH.nil
            refine st_of rfl (wp_storeA r7.blk _ _ rfl rfl rfl (agg_num hAl) (by rw [numV_size, numV_size, hAl]; rfl) (numV_oneL A) rfl (fun W1 a7 hg => ?_))
            replace r8 := r8.far hg hne.symm
            replace r7 : Row24 W1 _ A := ⟨a7, hAl⟩
            clear a7
            refine hKc.out _ _ ⟨below_far hS.1 hS.1.size (by omega) hg, hS.2.1.far hg (by omega), hS.2.2.1.far hg (by omega), hS.2.2.2.far hg (by omega)⟩ (fun hS => ?_)
            clear hKc Kc
            refine wpAnyH_ready (rs := [9]) (by kernel_rfl) (by simp) ?_
            refine AllReadyH.cons rfl (fun Kc hKc => ?_) AllReadyH.nil
            refine st_of rfl (wp_storeA r8.blk _ _ rfl rfl rfl (agg_num hBl) (by rw [numV_size, numV_size, hBl]; rfl) (numV_oneL B) rfl (fun W1 a8 hg => ?_))
            replace r7 := r7.far hg hne
            replace r8 : Row24 W1 _ B := ⟨a8, hBl⟩
            clear a8
            refine hKc.out _ _ ⟨below_far hS.1 hS.1.size (by omega) hg, hS.2.1.far hg (by omega), hS.2.2.1.far hg (by omega), hS.2.2.2.far hg (by omega)⟩ (fun hS => ?_)
            clear hKc Kc
            refine wpAnyH_done (by kernel_rfl) ?_ _
            go_wp2_with fail
            go_meet
            exact ⟨_, _, A, B, rfl, rfl, l7, l8, Lib.hid HA.out, Lib.hid HB2.out, r7, r8, hS.1, hS.2.1, hS.2.2.1, hS.2.2.2⟩
        refine AllReadyH.cons rfl (fun Kc hKc => ?_) AllReadyH.nil
        have l7 := hS.2.2.2.lt
        (try have hne := (Nat.ne_of_lt r8.lt).symm)
        refine st_of rfl (wp_allocA zero_num rfl (d := some 7) rfl (fun W1 a7 hb => ?_))
        (try replace r8 := r8.keep hb)
        have r7 : Row24 W1 _ (List.replicate 24 0) := ⟨a7, rfl⟩
        clear a7
        refine hKc.out _ _ ⟨below_step hS.1 hb, hS.2.1.keep hb, hS.2.2.1.keep hb, hS.2.2.2.keep hb⟩ (fun hS => ?_)
        clear hKc Kc
        simp only [Act.put, List.setIfInBounds_toArray, List.set_cons_zero, List.set_cons_succ]
        refine wpAnyH_ready (rs := [5]) (by kernel_rfl) (by simp) ?_
        refine AllReadyH.cons rfl (fun Kc hKc => ?_) AllReadyH.nil
        go_simp
        refine (C2.out _).mono ?_
        rintro e W1 ⟨⟨B, rfl, hB2⟩, hb⟩
        have HB2 : Hid _ := Lib.hid hB2
        have hBl := hB2.1.len
        clear hB2
        (try replace r7 := r7.keep hb)
        (try replace r8 := r8.keep hb)
        refine hKc.out _ _ ⟨below_step hS.1 hb, hS.2.1.keep hb, hS.2.2.1.keep hb, hS.2.2.2.keep hb⟩ (fun hS => ?_)
        clear hKc Kc
        refine wpAnyH_ready (rs := [8]) (by kernel_rfl) (by simp) ?_
        refine AllReadyH.cons rfl (fun Kc hKc => ?_) AllReadyH.nil
        refine st_of rfl (wp_storeA r7.blk _ _ rfl rfl rfl (agg_num hAl) (by rw [numV_size, numV_size, hAl]; rfl) (numV_oneL A) rfl (fun W1 a7 hg => ?_))
        replace r8 := r8.far hg hne.symm
        replace r7 : Row24 W1 _ A := ⟨a7, hAl⟩
        clear a7
        refine hKc.out _ _ ⟨below_far hS.1 hS.1.size (by omega) hg, hS.2.1.far hg (by omega), hS.2.2.1.far hg (by omega), hS.2.2.2.far hg (by omega)⟩ (fun hS => ?_)
        clear hKc Kc
        refine wpAnyH_ready (rs := [9]) (by kernel_rfl) (by simp) ?_
        refine AllReadyH.cons rfl (fun Kc hKc => ?_) AllReadyH.nil
        refine st_of rfl (wp_storeA r8.blk _ _ rfl rfl rfl (agg_num hBl) (by rw [numV_size, numV_size, hBl]; rfl) (numV_oneL B) rfl (fun W1 a8 hg => ?_))
        replace r7 := r7.far hg hne
        replace r8 : Row24 W1 _ B := ⟨a8, hBl⟩
        clear a8
        refine hKc.out _ _ ⟨below_far hS.1 hS.1.size (by omega) hg, hS.2.1.far hg (by omega), hS.2.2.1.far hg (by omega), hS.2.2.2.far hg (by omega)⟩ (fun hS => ?_)
        clear hKc Kc
        refine wpAnyH_done (by kernel_rfl) ?_ _
        go_wp2_with fail
        go_meet
        exact ⟨_, _, A, B, rfl, rfl, l7, l8, Lib.hid HA.out, Lib.hid HB2.out, r7, r8, hS.1, hS.2.1, hS.2.2.1, hS.2.2.2⟩
    refine AllReadyH.cons rfl (fun Kc hKc => ?_) ?_
    ·   skip
        have l7 := hS.2.2.2.lt
        (try have hne := (Nat.ne_of_lt r8.lt).symm)
        refine st_of rfl (wp_allocA zero_num rfl (d := some 7) rfl (fun W1 a7 hb => ?_))
        (try replace r8 := r8.keep hb)
        have r7 : Row24 W1 _ (List.replicate 24 0) := ⟨a7, rfl⟩
        clear a7
        refine hKc.out _ _ ⟨below_step hS.1 hb, hS.2.1.keep hb, hS.2.2.1.keep hb, hS.2.2.2.keep hb⟩ (fun hS => ?_)
        clear hKc Kc
        simp only [Act.put, List.setIfInBounds_toArray, List.set_cons_zero, List.set_cons_succ]
        refine wpAnyH_ready (rs := [2, 7]) (by kernel_rfl) (by simp) ?_
        refine AllReadyH.cons rfl (fun Kc hKc => ?_) ?_
        ·   skip
            go_simp
            refine (C1.out _).mono ?_
            rintro e W1 ⟨⟨A, rfl, hA⟩, hb⟩
            have HA : Hid _ := Lib.hid hA
            have hAl := hA.1.len
            clear hA
            (try replace r7 := r7.keep hb)
            (try replace r8 := r8.keep hb)
            refine hKc.out _ _ ⟨below_step hS.1 hb, hS.2.1.keep hb, hS.2.2.1.keep hb, hS.2.2.2.keep hb⟩ (fun hS => ?_)
            clear hKc Kc
            refine wpAnyH_ready (rs := [5, 7]) (by kernel_rfl) (by simp) ?_
            refine AllReadyH.cons rfl (fun Kc hKc => ?_) ?_
            ·   skip
                go_simp
                refine (C2.out _).mono ?_
                rintro e W1 ⟨⟨B, rfl, hB2⟩, hb⟩
                have HB2 : Hid _ := Lib.hid hB2
                have hBl := hB2.1.len
                clear hB2
                (try replace r7 := r7.keep hb)
                (try replace r8 := r8.keep hb)
                refine hKc.out _ _ ⟨below_step hS.1 hb, hS.2.1.keep hb, hS.2.2.1.keep hb, hS.2.2.2.keep hb⟩ (fun hS => ?_)
                clear hKc Kc
                refine wpAnyH_ready (rs := [7]) (by kernel_rfl) (by simp) ?_
                refine AllReadyH.cons rfl (fun Kc hKc => ?_) AllReadyH.nil
                have l8 := hS.2.2.2.lt
                (try have hne := Nat.ne_of_lt r7.lt)
                refine st_of rfl (wp_allocA zero_num rfl (d := some 8) rfl (fun W1 a8 hb => ?_))
                (try replace r7 := r7.keep hb)
                have r8 : Row24 W1 _ (List.replicate 24 0) := ⟨a8, rfl⟩
                clear a8
                refine hKc.out _ _ ⟨below_step hS.1 hb, hS.2.1.keep hb, hS.2.2.1.keep hb, hS.2.2.2.keep hb⟩ (fun hS => ?_)
                clear hKc Kc
                simp only [Act.put, List.setIfInBounds_toArray, List.set_cons_zero, List.set_cons_succ]
                refine wpAnyH_ready (rs := [8]) (by kernel_rfl) (by simp) ?_
                refine AllReadyH.cons rfl (fun Kc hKc => ?_) AllReadyH.nil
                refine st_of rfl (wp_storeA r7.blk _ _ rfl rfl rfl (agg_num hAl) (by rw [numV_size, numV_size, hAl]; rfl) (numV_oneL A) rfl (fun W1 a7 hg => ?_))
                replace r8 := r8.far hg hne.symm
                replace r7 : Row24 W1 _ A := ⟨a7, hAl⟩
                clear a7
                refine hKc.out _ _ ⟨below_far hS.1 hS.1.size (by omega) hg, hS.2.1.far hg (by omega), hS.2.2.1.far hg (by omega), hS.2.2.2.far hg (by omega)⟩ (fun hS => ?_)
                clear hKc Kc
                refine wpAnyH_ready (rs := [9]) (by kernel_rfl) (by simp) ?_
                refine AllReadyH.cons rfl (fun Kc hKc => ?_) AllReadyH.nil
                refine st_of rfl (wp_storeA r8.blk _ _ rfl rfl rfl (agg_num hBl) (by rw [numV_size, numV_size, hBl]; rfl) (numV_oneL B) rfl (fun W1 a8 hg => ?_))
                replace r7 := r7.far hg hne
                replace r8 : Row24 W1 _ B := ⟨a8, hBl⟩
                clear a8
                refine hKc.out _ _ ⟨below_far hS.1 hS.1.size (by omega) hg, hS.2.1.far hg (by omega), hS.2.2.1.far hg (by omega), hS.2.2.2.far hg (by omega)⟩ (fun hS => ?_)
                clear hKc Kc
                refine wpAnyH_done (by kernel_rfl) ?_ _
                go_wp2_with fail
                go_meet
                exact ⟨_, _, A, B, rfl, rfl, l7, l8, Lib.hid HA.out, Lib.hid HB2.out, r7, r8, hS.1, hS.2.1, hS.2.2.1, hS.2.2.2⟩
            refine AllReadyH.cons rfl (fun Kc hKc => ?_) AllReadyH.nil
            have l8 := hS.2.2.2.lt
            (try have hne := Nat.ne_of_lt r7.lt)
            refine st_of rfl (wp_allocA zero_num rfl (d := some 8) rfl (fun W1 a8 hb => ?_))
            (try replace r7 := r7.keep hb)
            have r8 : Row24 W1 _ (List.replicate 24 0) := ⟨a8, rfl⟩
            clear a8
            refine hKc.out _ _ ⟨below_step hS.1 hb, hS.2.1.keep hb, hS.2.2.1.keep hb, hS.2.2.2.keep hb⟩ (fun hS => ?_)
            clear hKc Kc
            simp only [Act.put, List.setIfInBounds_toArray, List.set_cons_zero, List.set_cons_succ]
            refine wpAnyH_ready (rs := [5]) (by kernel_rfl) (by simp) ?_
            refine AllReadyH.cons rfl (fun Kc hKc => ?_) AllReadyH.nil
            go_simp
            refine (C2.out _).mono ?_
            rintro e W1 ⟨⟨B, rfl, hB2⟩, hb⟩
            have HB2 : Hid _ := Lib.hid hB2
            have hBl := hB2.1.len
            clear hB2
            (try replace r7 := r7.keep hb)
            (try replace r8 := r8.keep hb)
            refine hKc.out _ _ ⟨below_step hS.1 hb, hS.2.1.keep hb, hS.2.2.1.keep hb, hS.2.2.2.keep hb⟩ (fun hS => ?_)
            clear hKc Kc
            refine wpAnyH_ready (rs := [8]) (by kernel_rfl) (by simp) ?_
            refine AllReadyH.cons rfl (fun Kc hKc => ?_) AllReadyH.nil
            refine st_of rfl (wp_storeA r7.blk _ _ rfl rfl rfl (agg_num hAl) (by rw [numV_size, numV_size, hAl]; rfl) (numV_oneL A) rfl (fun W1 a7 hg => ?_))
            replace r8 := r8.far hg hne.symm
            replace r7 : Row24 W1 _ A := ⟨a7, hAl⟩
            clear a7
            refine hKc.out _ _ ⟨below_far hS.1 hS.1.size (by omega) hg, hS.2.1.far hg (by omega), hS.2.2.1.far hg (by omega), hS.2.2.2.far hg (by omega)⟩ (fun hS => ?_)
            clear hKc Kc
            refine wpAnyH_ready (rs := [9]) (by kernel_rfl) (by simp) ?_
            refine AllReadyH.cons rfl (fun Kc hKc => ?_) AllReadyH.nil
            refine st_of rfl (wp_storeA r8.blk _ _ rfl rfl rfl (agg_num hBl) (by rw [numV_size, numV_size, hBl]; rfl) (numV_oneL B) rfl (fun W1 a8 hg => ?_))
            replace r7 := r7.far hg hne
            replace r8 : Row24 W1 _ B := ⟨a8, hBl⟩
            clear a8
            refine hKc.out _ _ ⟨below_far hS.1 hS.1.size (by omega) hg, hS.2.1.far hg (by omega), hS.2.2.1.far hg (by omega), hS.2.2.2.far hg (by omega)⟩ (fun hS => ?_)
            clear hKc Kc
            refine wpAnyH_done (by kernel_rfl) ?_ _
            go_wp2_with fail
            go_meet
            exact ⟨_, _, A, B, rfl, rfl, l7, l8, Lib.hid HA.out, Lib.hid HB2.out, r7, r8, hS.1, hS.2.1, hS.2.2.1, hS.2.2.2⟩
        refine AllReadyH.cons rfl (fun Kc hKc => ?_) AllReadyH.nil
        have l8 := hS.2.2.2.lt
        (try have hne := Nat.ne_of_lt r7.lt)
        refine st_of rfl (wp_allocA zero_num rfl (d := some 8) rfl (fun W1 a8 hb => ?_))
        (try replace r7 := r7.keep hb)
        have r8 : Row24 W1 _ (List.replicate 24 0) := ⟨a8, rfl⟩
        clear a8
        refine hKc.out _ _ ⟨below_step hS.1 hb, hS.2.1.keep hb, hS.2.2.1.keep hb, hS.2.2.2.keep hb⟩ (fun hS => ?_)
        clear hKc Kc
        simp only [Act.put, List.setIfInBounds_toArray, List.set_cons_zero, List.set_cons_succ]
        refine wpAnyH_ready (rs := [2]) (by kernel_rfl) (by simp) ?_
        refine AllReadyH.cons rfl (fun Kc hKc => ?_) AllReadyH.nil
        go_simp
        refine (C1.out _).mono ?_
        rintro e W1 ⟨⟨A, rfl, hA⟩, hb⟩
        have HA : Hid _ := Lib.hid hA
        have hAl := hA.1.len
        clear hA
        (try replace r7 := r7.keep hb)
        (try replace r8 := r8.keep hb)
        refine hKc.out _ _ ⟨below_step hS.1 hb, hS.2.1.keep hb, hS.2.2.1.keep hb, hS.2.2.2.keep hb⟩ (fun hS => ?_)
        clear hKc Kc
        refine wpAnyH_ready (rs := [5]) (by kernel_rfl) (by simp) ?_
        refine AllReadyH.cons rfl (fun Kc hKc => ?_) AllReadyH.nil
        go_simp
        refine (C2.out _).mono ?_
        rintro e W1 ⟨⟨B, rfl, hB2⟩, hb⟩
        have HB2 : Hid _ := Lib.hid hB2
        have hBl := hB2.1.len
        clear hB2
        (try replace r7 := r7.keep hb)
        (try replace r8 := r8.keep hb)
        refine hKc.out _ _ ⟨below_step hS.1 hb, hS.2.1.keep hb, hS.2.2.1.keep hb, hS.2.2.2.keep hb⟩ (fun hS => ?_)
        clear hKc Kc
        refine wpAnyH_ready (rs := [8]) (by kernel_rfl) (by simp) ?_
        refine AllReadyH.cons rfl (fun Kc hKc => ?_) AllReadyH.nil
        refine st_of rfl (wp_storeA r7.blk _ _ rfl rfl rfl (agg_num hAl) (by rw [numV_size, numV_size, hAl]; rfl) (numV_oneL A) rfl (fun W1 a7 hg => ?_))
        replace r8 := r8.far hg hne.symm
        replace r7 : Row24 W1 _ A := ⟨a7, hAl⟩
        clear a7
        refine hKc.out _ _ ⟨below_far hS.1 hS.1.size (by omega) hg, hS.2.1.far hg (by omega), hS.2.2.1.far hg (by omega), hS.2.2.2.far hg (by omega)⟩ (fun hS => ?_)
        clear hKc Kc
        refine wpAnyH_ready (rs := [9]) (by kernel_rfl) (by simp) ?_
        refine AllReadyH.cons rfl (fun Kc hKc => ?_) AllReadyH.nil
        refine st_of rfl (wp_storeA r8.blk _ _ rfl rfl rfl (agg_num hBl) (by rw [numV_size, numV_size, hBl]; rfl) (numV_oneL B) rfl (fun W1 a8 hg => ?_))
        replace r7 := r7.far hg hne
        replace r8 : Row24 W1 _ B := ⟨a8, hBl⟩
        clear a8
        refine hKc.out _ _ ⟨below_far hS.1 hS.1.size (by omega) hg, hS.2.1.far hg (by omega), hS.2.2.1.far hg (by omega), hS.2.2.2.far hg (by omega)⟩ (fun hS => ?_)
        clear hKc Kc
        refine wpAnyH_done (by kernel_rfl) ?_ _
        go_wp2_with fail
        go_meet
        exact ⟨_, _, A, B, rfl, rfl, l7, l8, Lib.hid HA.out, Lib.hid HB2.out, r7, r8, hS.1, hS.2.1, hS.2.2.1, hS.2.2.2⟩
    refine AllReadyH.cons rfl (fun Kc hKc => ?_) AllReadyH.nil
    have l8 := hS.2.2.2.lt
    (try have hne := Nat.ne_of_lt r7.lt)
    refine st_of rfl (wp_allocA zero_num rfl (d := some 8) rfl (fun W1 a8 hb => ?_))
    (try replace r7 := r7.keep hb)
    have r8 : Row24 W1 _ (List.replicate 24 0) := ⟨a8, rfl⟩
    clear a8
    refine hKc.out _ _ ⟨below_step hS.1 hb, hS.2.1.keep hb, hS.2.2.1.keep hb, hS.2.2.2.keep hb⟩ (fun hS => ?_)
    clear hKc Kc
    simp only [Act.put, List.setIfInBounds_toArray, List.set_cons_zero, List.set_cons_succ]
    refine wpAnyH_ready (rs := [2, 6]) (by kernel_rfl) (by simp) ?_
    refine AllReadyH.cons rfl (fun Kc hKc => ?_) ?_
    ·   skip
        go_simp
        refine (C1.out _).mono ?_
        rintro e W1 ⟨⟨A, rfl, hA⟩, hb⟩
        have HA : Hid _ := Lib.hid hA
        have hAl := hA.1.len
        clear hA
        (try replace r7 := r7.keep hb)
        (try replace r8 := r8.keep hb)
        refine hKc.out _ _ ⟨below_step hS.1 hb, hS.2.1.keep hb, hS.2.2.1.keep hb, hS.2.2.2.keep hb⟩ (fun hS => ?_)
        clear hKc Kc
        refine wpAnyH_ready (rs := [5, 6]) (by kernel_rfl) (by simp) ?_
        refine AllReadyH.cons rfl (fun Kc hKc => ?_) ?_
        ·   skip
            go_simp
            refine (C2.out _).mono ?_
            rintro e W1 ⟨⟨B, rfl, hB2⟩, hb⟩
            have HB2 : Hid _ := Lib.hid hB2
            have hBl := hB2.1.len
            clear hB2
            (try replace r7 := r7.keep hb)
            (try replace r8 := r8.keep hb)
            refine hKc.out _ _ ⟨below_step hS.1 hb, hS.2.1.keep hb, hS.2.2.1.keep hb, hS.2.2.2.keep hb⟩ (fun hS => ?_)
            clear hKc Kc
            refine wpAnyH_ready (rs := [6]) (by kernel_rfl) (by simp) ?_
            refine AllReadyH.cons rfl (fun Kc hKc => ?_) AllReadyH.nil
            have l7 := hS.2.2.2.lt
            (try have hne := (Nat.ne_of_lt r8.lt).symm)
            refine st_of rfl (wp_allocA zero_num rfl (d := some 7) rfl (fun W1 a7 hb => ?_))
            (try replace r8 := r8.keep hb)
            have r7 : Row24 W1 _ (List.replicate 24 0) := ⟨a7, rfl⟩
            clear a7
            refine hKc.out _ _ ⟨below_step hS.1 hb, hS.2.1.keep hb, hS.2.2.1.keep hb, hS.2.2.2.keep hb⟩ (fun hS => ?_)
            clear hKc Kc
            simp only [Act.put, List.setIfInBounds_toArray, List.set_cons_zero, List.set_cons_succ]
            refine wpAnyH_ready (rs := [8]) (by kernel_rfl) (by simp) ?_
            refine AllReadyH.cons rfl (fun Kc hKc => ?_) AllReadyH.nil
            refine st_of rfl (wp_storeA r7.blk _ _ rfl rfl rfl (agg_num hAl) (by rw [numV_size, numV_size, hAl]; rfl) (numV_oneL A) rfl (fun W1 a7 hg => ?_))
            replace r8 := r8.far hg hne.symm
            replace r7 : Row24 W1 _ A := ⟨a7, hAl⟩
            clear a7
            refine hKc.out _ _ ⟨below_far hS.1 hS.1.size (by omega) hg, hS.2.1.far hg (by omega), hS.2.2.1.far hg (by omega), hS.2.2.2.far hg (by omega)⟩ (fun hS => ?_)
            clear hKc Kc
            refine wpAnyH_ready (rs := [9]) (by kernel_rfl) (by simp) ?_
            refine AllReadyH.cons rfl (fun Kc hKc => ?_) AllReadyH.nil
            refine st_of rfl (wp_storeA r8.blk _ _ rfl rfl rfl (agg_num hBl) (by rw [numV_size, numV_size, hBl]; rfl) (numV_oneL B) rfl (fun W1 a8 hg => ?_))
            replace r7 := r7.far hg hne
            replace r8 : Row24 W1 _ B := ⟨a8, hBl⟩
            clear a8
            refine hKc.out _ _ ⟨below_far hS.1 hS.1.size (by omega) hg, hS.2.1.far hg (by omega), hS.2.2.1.far hg (by omega), hS.2.2.2.far hg (by omega)⟩ (fun hS => ?_)
            clear hKc Kc
            refine wpAnyH_done (by kernel_rfl) ?_ _
            go_wp2_with fail
            go_meet
            exact ⟨_, _, A, B, rfl, rfl, l7, l8, Lib.hid HA.out, Lib.hid HB2.out, r7, r8, hS.1, hS.2.1, hS.2.2.1, hS.2.2.2⟩
        refine AllReadyH.cons rfl (fun Kc hKc => ?_) AllReadyH.nil
        have l7 := hS.2.2.2.lt
        (try have hne := (Nat.ne_of_lt r8.lt).symm)
        refine st_of rfl (wp_allocA zero_num rfl (d := some 7) rfl (fun W1 a7 hb => ?_))
        (try replace r8 := r8.keep hb)
        have r7 : Row24 W1 _ (List.replicate 24 0) := ⟨a7, rfl⟩
        clear a7
        refine hKc.out _ _ ⟨below_step hS.1 hb, hS.2.1.keep hb, hS.2.2.1.keep hb, hS.2.2.2.keep hb⟩ (fun hS => ?_)
        clear hKc Kc
        simp only [Act.put, List.setIfInBounds_toArray, List.set_cons_zero, List.set_cons_succ]
        refine wpAnyH_ready (rs := [5]) (by kernel_rfl) (by simp) ?_
        refine AllReadyH.cons rfl (fun Kc hKc => ?_) AllReadyH.nil
        go_simp
        refine (C2.out _).mono ?_
        rintro e W1 ⟨⟨B, rfl, hB2⟩, hb⟩
        have HB2 : Hid _ := Lib.hid hB2
        have hBl := hB2.1.len
        clear hB2
        (try replace r7 := r7.keep hb)
        (try replace r8 := r8.keep hb)
        refine hKc.out _ _ ⟨below_step hS.1 hb, hS.2.1.keep hb, hS.2.2.1.keep hb, hS.2.2.2.keep hb⟩ (fun hS => ?_)
        clear hKc Kc
        refine wpAnyH_ready (rs := [8]) (by kernel_rfl) (by simp) ?_
        refine AllReadyH.cons rfl (fun Kc hKc => ?_) AllReadyH.nil
        refine st_of rfl (wp_storeA r7.blk _ _ rfl rfl rfl (agg_num hAl) (by rw [numV_size, numV_size, hAl]; rfl) (numV_oneL A) rfl (fun W1 a7 hg => ?_))
        replace r8 := r8.far hg hne.symm
        replace r7 : Row24 W1 _ A := ⟨a7, hAl⟩
        clear a7
        refine hKc.out _ _ ⟨below_far hS.1 hS.1.size (by omega) hg, hS.2.1.far hg (by omega), hS.2.2.1.far hg (by omega), hS.2.2.2.far hg (by omega)⟩ (fun hS => ?_)
        clear hKc Kc
        refine wpAnyH_ready (rs := [9]) (by kernel_rfl) (by simp) ?_
        refine AllReadyH.cons rfl (fun Kc hKc => ?_) AllReadyH.nil
        refine st_of rfl (wp_storeA r8.blk _ _ rfl rfl rfl (agg_num hBl) (by rw [numV_size, numV_size, hBl]; rfl) (numV_oneL B) rfl (fun W1 a8 hg => ?_))
        replace r7 := r7.far hg hne
        replace r8 : Row24 W1 _ B := ⟨a8, hBl⟩
        clear a8
        refine hKc.out _ _ ⟨below_far hS.1 hS.1.size (by omega) hg, hS.2.1.far hg (by omega), hS.2.2.1.far hg (by omega), hS.2.2.2.far hg (by omega)⟩ (fun hS => ?_)
        clear hKc Kc
        refine wpAnyH_done (by kernel_rfl) ?_ _
        go_wp2_with fail
        go_meet
        exact ⟨_, _, A, B, rfl, rfl, l7, l8, Lib.hid HA.out, Lib.hid HB2.out, r7, r8, hS.1, hS.2.1, hS.2.2.1, hS.2.2.2⟩
    refine AllReadyH.cons rfl (fun Kc hKc => ?_) AllReadyH.nil
    have l7 := hS.2.2.2.lt
    (try have hne := (Nat.ne_of_lt r8.lt).symm)
    refine st_of rfl (wp_allocA zero_num rfl (d := some 7) rfl (fun W1 a7 hb => ?_))
    (try replace r8 := r8.keep hb)
    have r7 : Row24 W1 _ (List.replicate 24 0) := ⟨a7, rfl⟩
    clear a7
    refine hKc.out _ _ ⟨below_step hS.1 hb, hS.2.1.keep hb, hS.2.2.1.keep hb, hS.2.2.2.keep hb⟩ (fun hS => ?_)
    clear hKc Kc
    simp only [Act.put, List.setIfInBounds_toArray, List.set_cons_zero, List.set_cons_succ]
    refine wpAnyH_ready (rs := [2]) (by kernel_rfl) (by simp) ?_
    refine AllReadyH.cons rfl (fun Kc hKc => ?_) AllReadyH.nil
    go_simp
    refine (C1.out _).mono ?_
    rintro e W1 ⟨⟨A, rfl, hA⟩, hb⟩
    have HA : Hid _ := Lib.hid hA
    have hAl := hA.1.len
    clear hA
    (try replace r7 := r7.keep hb)
    (try replace r8 := r8.keep hb)
    refine hKc.out _ _ ⟨below_step hS.1 hb, hS.2.1.keep hb, hS.2.2.1.keep hb, hS.2.2.2.keep hb⟩ (fun hS => ?_)
    clear hKc Kc
    refine wpAnyH_ready (rs := [5]) (by kernel_rfl) (by simp) ?_
    refine AllReadyH.cons rfl (fun Kc hKc => ?_) AllReadyH.nil
    go_simp
    refine (C2.out _).mono ?_
    rintro e W1 ⟨⟨B, rfl, hB2⟩, hb⟩
    have HB2 : Hid _ := Lib.hid hB2
    have hBl := hB2.1.len
    clear hB2
    (try replace r7 := r7.keep hb)
    (try replace r8 := r8.keep hb)
    refine hKc.out _ _ ⟨below_step hS.1 hb, hS.2.1.keep hb, hS.2.2.1.keep hb, hS.2.2.2.keep hb⟩ (fun hS => ?_)
    clear hKc Kc
    refine wpAnyH_ready (rs := [8]) (by kernel_rfl) (by simp) ?_
    refine AllReadyH.cons rfl (fun Kc hKc => ?_) AllReadyH.nil
    refine st_of rfl (wp_storeA r7.blk _ _ rfl rfl rfl (agg_num hAl) (by rw [numV_size, numV_size, hAl]; rfl) (numV_oneL A) rfl (fun W1 a7 hg => ?_))
    replace r8 := r8.far hg hne.symm
    replace r7 : Row24 W1 _ A := ⟨a7, hAl⟩
    clear a7
    refine hKc.out _ _ ⟨below_far hS.1 hS.1.size (by omega) hg, hS.2.1.far hg (by omega), hS.2.2.1.far hg (by omega), hS.2.2.2.far hg (by omega)⟩ (fun hS => ?_)
    clear hKc Kc
    refine wpAnyH_ready (rs := [9]) (by kernel_rfl) (by simp) ?_
    refine AllReadyH.cons rfl (fun Kc hKc => ?_) AllReadyH.nil
    refine st_of rfl (wp_storeA r8.blk _ _ rfl rfl rfl (agg_num hBl) (by rw [numV_size, numV_size, hBl]; rfl) (numV_oneL B) rfl (fun W1 a8 hg => ?_))
    replace r7 := r7.far hg hne
    replace r8 : Row24 W1 _ B := ⟨a8, hBl⟩
    clear a8
    refine hKc.out _ _ ⟨below_far hS.1 hS.1.size (by omega) hg, hS.2.1.far hg (by omega), hS.2.2.1.far hg (by omega), hS.2.2.2.far hg (by omega)⟩ (fun hS => ?_)
    clear hKc Kc
    refine wpAnyH_done (by kernel_rfl) ?_ _
    go_wp2_with fail
    go_meet
    exact ⟨_, _, A, B, rfl, rfl, l7, l8, Lib.hid HA.out, Lib.hid HB2.out, r7, r8, hS.1, hS.2.1, hS.2.2.1, hS.2.2.2⟩
  case rest =>
    clear b2 b3 b4 hB
    obtain ⟨g7, g8, A, B, rfl, rfl, l7, l8, HA, HB, r7, r8, hB, b2, b3, b4⟩ := hcut
    have Al := r7.len
    have Bl := r8.len
    by_cases hnm : n = m
    · subst hnm
      have HR : Hid _ := Lib.hid (R1.out rfl)
      go_wp2_with (first | (refine wl_loadC b2 rfl (by kernel_rfl) _ rfl (j := 0) rfl rfl ?_) | (refine wl_loadC b3 rfl (by kernel_rfl) _ rfl (j := 0) rfl rfl ?_))
      refine wp_region_held_drew (S := fun W : World => Below w.heap.size w W ∧ Blk W w.heap.size 23 #[.bool n, .string s, .int .i64 (T : Int)] ∧ Blk W W2.heap.size 23 #[.bool n, .string t, .int .i64 (U : Int)] ∧ Row24 W g7 A ∧ Row24 W g8 B) (by kernel_rfl) ⟨below_step hB (below_drew _), b2.drew, b3.drew, r7.drewR, r8.drewR⟩ (fun hS => ?_)
      replace b4 := b4.drew
      refine takeH (i := 0) (d := some 26) (v := ?v3) rfl rfl (by kernel_rfl) (by kernel_rfl) (by kernel_rfl) (fun _ _ _ h => h) (Or.inl ⟨by rfl, ?h3⟩) hS ?_
      case h3 => intro W _; go_simp; try with_reducible rfl
      simp only [Act.put, List.setIfInBounds_toArray, List.set_cons_zero, List.set_cons_succ]
      refine takeH (i := 1) (d := some 27) (v := _) rfl rfl (by kernel_rfl) (by kernel_rfl) (by kernel_rfl) (fun _ _ _ h => h) (yields_C rfl (by rfl) (by kernel_rfl) _ rfl (j := 0) rfl rfl (fun W hW => hW.2.1)) hS ?_
      simp only [Act.put, List.setIfInBounds_toArray, List.set_cons_zero, List.set_cons_succ]
      refine takeH (i := 2) (d := some 28) (v := _) rfl rfl (by kernel_rfl) (by kernel_rfl) (by kernel_rfl) (fun _ _ _ h => h) (yields_A rfl (by rfl) (agg_num Al) _ rfl rfl (fun W hW => (hW.2.2.2.1).blk)) hS ?_
      simp only [Act.put, List.setIfInBounds_toArray, List.set_cons_zero, List.set_cons_succ]
      refine takeH (i := 3) (d := some 29) (v := _) rfl rfl (by kernel_rfl) (by kernel_rfl) (by kernel_rfl) (fun _ _ _ h => h) (yields_A rfl (by rfl) (agg_num Bl) _ rfl rfl (fun W hW => (hW.2.2.2.2).blk)) hS ?_
      simp only [Act.put, List.setIfInBounds_toArray, List.set_cons_zero, List.set_cons_succ]
      refine takeH (i := 6) (d := some 32) (v := ?v4) rfl rfl (by kernel_rfl) (by kernel_rfl) (by kernel_rfl) (fun _ _ _ h => h) (Or.inl ⟨by rfl, ?h4⟩) hS ?_
      case h4 => intro W _; go_simp; try with_reducible rfl
      simp only [Act.put, List.setIfInBounds_toArray, List.set_cons_zero, List.set_cons_succ]
      refine wpAnyH_ready (rs := [4]) (by kernel_rfl) (by simp) ?_
      refine AllReadyH.cons rfl (fun Kc hKc => ?_) AllReadyH.nil
      go_simp
      refine (pplus_any A B HA.out.1 HB.out.1 _).mono ?_
      rintro e W5 ⟨⟨O, rfl, hO⟩, hb⟩
      have HO : Hid _ := Lib.hid hO
      clear hO
      replace b4 := b4.keep hb
      refine hKc.out _ _ ⟨below_step hS.1 hb, hS.2.1.keep hb, hS.2.2.1.keep hb, hS.2.2.2.1.keep hb, hS.2.2.2.2.keep hb⟩ (fun hS => ?_)
      clear hKc Kc
      refine wpAnyH_ready (rs := [5]) (by kernel_rfl) (by simp) ?_
      refine AllReadyH.cons rfl (fun Kc hKc => ?_) AllReadyH.nil
      go_simp
      refine (pdigits_any O HO.out.1 _ (HP.out.keep hS.1)).mono ?_
      rintro e W6 ⟨⟨u, rfl, hu⟩, hb⟩
      have HU : Hid _ := Lib.hid hu
      clear hu
      replace b4 := b4.keep hb
      refine hKc.out _ _ ⟨below_step hS.1 hb, hS.2.1.keep hb, hS.2.2.1.keep hb, hS.2.2.2.1.keep hb, hS.2.2.2.2.keep hb⟩ (fun hS => ?_)
      clear hKc Kc
      refine wpAnyH_ready (rs := [7]) (by kernel_rfl) (by simp) ?_
      refine AllReadyH.cons rfl (fun Kc hKc => ?_) AllReadyH.nil
      go_simp
      refine (pof_is _ u M (Nat.le_trans (digs_size (k := 121) HU.out (by rw [HO.out.2, HA.out.2, HB.out.2]; exact Nat.lt_of_le_of_lt (Nat.mod_le _ _) (Nat.lt_of_lt_of_le (Nat.add_lt_add HX.out HY.out) h0.out)) (by decide)) (by decide)) (by omega) (digs_all HU.out) r (by rw [val_of HU.out, HO.out.2, HA.out.2, HB.out.2, Nat.mod_eq_of_lt (lt_top (Nat.lt_of_lt_of_le (Nat.add_lt_add HX.out HY.out) h0.out) (by decide))]; exact HR.out) _).mono ?_
      rintro e W7 ⟨rfl, hb⟩
      replace b4 := b4.keep hb
      refine hKc.out _ _ ⟨below_step hS.1 hb, hS.2.1.keep hb, hS.2.2.1.keep hb, hS.2.2.2.1.keep hb, hS.2.2.2.2.keep hb⟩ (fun hS => ?_)
      clear hKc Kc
      refine takeH (i := 8) (d := some 34) (v := ?v5) rfl rfl (by kernel_rfl) (by kernel_rfl) (by kernel_rfl) (fun _ _ _ h => h) (Or.inl ⟨by rfl, ?h5⟩) hS ?_
      case h5 => intro W _; go_simp; try with_reducible rfl
      simp only [Act.put, List.setIfInBounds_toArray, List.set_cons_zero, List.set_cons_succ]
      refine takeH (i := 9) (d := some 35) (v := ?v6) rfl rfl (by kernel_rfl) (by kernel_rfl) (by kernel_rfl) (fun _ _ _ h => h) (Or.inl ⟨by rfl, ?h6⟩) hS ?_
      case h6 => intro W _; go_simp; try with_reducible rfl
      simp only [Act.put, List.setIfInBounds_toArray, List.set_cons_zero, List.set_cons_succ]
      refine wpAnyH_ready (rs := [10]) (by kernel_rfl) (by simp) ?_
      refine AllReadyH.cons rfl (fun Kc hKc => ?_) AllReadyH.nil
      refine st_of rfl (wp_storeA b4 _ _ rfl rfl rfl (by kernel_rfl) rfl rfl rfl (fun W8 b8 hg => ?_))
      refine hKc.out _ _ ⟨below_far hS.1 hS.1.size (by omega) hg, hS.2.1.far hg (by omega), hS.2.2.1.far hg (by omega), hS.2.2.2.1.far hg (by omega), hS.2.2.2.2.far hg (by omega)⟩ (fun hS => ?_)
      clear hKc Kc
      refine takeH (i := 11) (d := some 5) (v := ?v7) rfl rfl (by kernel_rfl) (by kernel_rfl) (by kernel_rfl) (fun _ _ _ h => h) (Or.inl ⟨by rfl, ?h7⟩) hS ?_
      case h7 => intro W _; go_simp; try with_reducible rfl
      simp only [Act.put, List.setIfInBounds_toArray, List.set_cons_zero, List.set_cons_succ]
      refine wpAnyH_done (by kernel_rfl) ?_ _
      go_wp2
      exact bodyPost_ret (res_cell_tmp rfl b8 (by kernel_rfl) rfl rfl) rfl ⟨rfl, hS.1⟩
    · obtain rfl : m = !n := by cases n <;> cases m <;> first | rfl | exact absurd rfl hnm
      have q : (n == !n) = false := by cases n <;> rfl
      clear hnm
      by_cases hlt : X < Y
      · have HR : Hid _ := Lib.hid (R2.out rfl hlt)
        have HLT : Hid _ := Lib.hid hlt
        clear hlt
        go_wp2_with (first | (refine wl_loadC b2 rfl (by kernel_rfl) _ rfl (j := 0) rfl rfl ?_) | (refine wl_loadC b3 rfl (by kernel_rfl) _ rfl (j := 0) rfl rfl ?_) | (refine wl_loadA r7.blk rfl (agg_num Al) _ rfl rfl ?_) | (refine wl_loadA r8.blk rfl (agg_num Bl) _ rfl rfl ?_))
        refine (pcmp_low A B HA.out.1 HB.out.1 (by rw [HA.out.2, HB.out.2]; exact HLT.out) _).mono ?_
        rintro e W5 ⟨rfl, hb⟩
        replace hB := below_step hB hb
        replace b2 := b2.keep hb
        replace b3 := b3.keep hb
        replace b4 := b4.keep hb
        replace r7 := r7.keep hb
        replace r8 := r8.keep hb
        clear hb
        go_wp2_with (first | (refine wl_loadC b2 rfl (by kernel_rfl) _ rfl (j := 0) rfl rfl ?_) | (refine wl_loadC b3 rfl (by kernel_rfl) _ rfl (j := 0) rfl rfl ?_) | (refine wl_loadA r7.blk rfl (agg_num Al) _ rfl rfl ?_) | (refine wl_loadA r8.blk rfl (agg_num Bl) _ rfl rfl ?_))
        refine wp_region_held_drew (S := fun W : World => Below w.heap.size w W ∧ Blk W w.heap.size 23 #[.bool n, .string s, .int .i64 (T : Int)] ∧ Blk W W2.heap.size 23 #[.bool !n, .string t, .int .i64 (U : Int)] ∧ Row24 W g7 A ∧ Row24 W g8 B) (by kernel_rfl) ⟨below_step hB (below_drew _), b2.drew, b3.drew, r7.drewR, r8.drewR⟩ (fun hS => ?_)
        replace b4 := b4.drew
        refine takeH (i := 0) (d := some 41) (v := ?v8) rfl rfl (by kernel_rfl) (by kernel_rfl) (by kernel_rfl) (fun _ _ _ h => h) (Or.inl ⟨by rfl, ?h8⟩) hS ?_
        case h8 => intro W _; go_simp; try with_reducible rfl
        simp only [Act.put, List.setIfInBounds_toArray, List.set_cons_zero, List.set_cons_succ]
        refine takeH (i := 1) (d := some 42) (v := _) rfl rfl (by kernel_rfl) (by kernel_rfl) (by kernel_rfl) (fun _ _ _ h => h) (yields_C rfl (by rfl) (by kernel_rfl) _ rfl (j := 0) rfl rfl (fun W hW => hW.2.2.1)) hS ?_
        simp only [Act.put, List.setIfInBounds_toArray, List.set_cons_zero, List.set_cons_succ]
        refine takeH (i := 2) (d := some 43) (v := _) rfl rfl (by kernel_rfl) (by kernel_rfl) (by kernel_rfl) (fun _ _ _ h => h) (yields_A rfl (by rfl) (agg_num Bl) _ rfl rfl (fun W hW => (hW.2.2.2.2).blk)) hS ?_
        simp only [Act.put, List.setIfInBounds_toArray, List.set_cons_zero, List.set_cons_succ]
        refine takeH (i := 3) (d := some 44) (v := _) rfl rfl (by kernel_rfl) (by kernel_rfl) (by kernel_rfl) (fun _ _ _ h => h) (yields_A rfl (by rfl) (agg_num Al) _ rfl rfl (fun W hW => (hW.2.2.2.1).blk)) hS ?_
        simp only [Act.put, List.setIfInBounds_toArray, List.set_cons_zero, List.set_cons_succ]
        refine takeH (i := 6) (d := some 47) (v := ?v9) rfl rfl (by kernel_rfl) (by kernel_rfl) (by kernel_rfl) (fun _ _ _ h => h) (Or.inl ⟨by rfl, ?h9⟩) hS ?_
        case h9 => intro W _; go_simp; try with_reducible rfl
        simp only [Act.put, List.setIfInBounds_toArray, List.set_cons_zero, List.set_cons_succ]
        refine wpAnyH_ready (rs := [4]) (by kernel_rfl) (by simp) ?_
        refine AllReadyH.cons rfl (fun Kc hKc => ?_) AllReadyH.nil
        go_simp
        refine (pminus_any B A HB.out.1 HA.out.1 (by rw [HA.out.2, HB.out.2]; exact Nat.le_of_lt HLT.out) _).mono ?_
        rintro e W5 ⟨⟨O, rfl, hO⟩, hb⟩
        have HO : Hid _ := Lib.hid hO
        clear hO
        replace b4 := b4.keep hb
        refine hKc.out _ _ ⟨below_step hS.1 hb, hS.2.1.keep hb, hS.2.2.1.keep hb, hS.2.2.2.1.keep hb, hS.2.2.2.2.keep hb⟩ (fun hS => ?_)
        clear hKc Kc
        refine wpAnyH_ready (rs := [5]) (by kernel_rfl) (by simp) ?_
        refine AllReadyH.cons rfl (fun Kc hKc => ?_) AllReadyH.nil
        go_simp
        refine (pdigits_any O HO.out.1 _ (HP.out.keep hS.1)).mono ?_
        rintro e W6 ⟨⟨u, rfl, hu⟩, hb⟩
        have HU : Hid _ := Lib.hid hu
        clear hu
        replace b4 := b4.keep hb
        refine hKc.out _ _ ⟨below_step hS.1 hb, hS.2.1.keep hb, hS.2.2.1.keep hb, hS.2.2.2.1.keep hb, hS.2.2.2.2.keep hb⟩ (fun hS => ?_)
        clear hKc Kc
        refine wpAnyH_ready (rs := [7]) (by kernel_rfl) (by simp) ?_
        refine AllReadyH.cons rfl (fun Kc hKc => ?_) AllReadyH.nil
        go_simp
        refine (pof_is _ u M (Nat.le_trans (digs_size (k := 120) HU.out (by rw [HO.out.2, HA.out.2, HB.out.2]; exact Nat.lt_of_le_of_lt (Nat.sub_le _ _) HY.out) (by decide)) (by decide)) (by omega) (digs_all HU.out) r (by rw [val_of HU.out, HO.out.2, HA.out.2, HB.out.2]; exact HR.out) _).mono ?_
        rintro e W7 ⟨rfl, hb⟩
        replace b4 := b4.keep hb
        refine hKc.out _ _ ⟨below_step hS.1 hb, hS.2.1.keep hb, hS.2.2.1.keep hb, hS.2.2.2.1.keep hb, hS.2.2.2.2.keep hb⟩ (fun hS => ?_)
        clear hKc Kc
        refine takeH (i := 8) (d := some 49) (v := ?v10) rfl rfl (by kernel_rfl) (by kernel_rfl) (by kernel_rfl) (fun _ _ _ h => h) (Or.inl ⟨by rfl, ?h10⟩) hS ?_
        case h10 => intro W _; go_simp; try with_reducible rfl
        simp only [Act.put, List.setIfInBounds_toArray, List.set_cons_zero, List.set_cons_succ]
        refine takeH (i := 9) (d := some 50) (v := ?v11) rfl rfl (by kernel_rfl) (by kernel_rfl) (by kernel_rfl) (fun _ _ _ h => h) (Or.inl ⟨by rfl, ?h11⟩) hS ?_
        case h11 => intro W _; go_simp; try with_reducible rfl
        simp only [Act.put, List.setIfInBounds_toArray, List.set_cons_zero, List.set_cons_succ]
        refine wpAnyH_ready (rs := [10]) (by kernel_rfl) (by simp) ?_
        refine AllReadyH.cons rfl (fun Kc hKc => ?_) AllReadyH.nil
        refine st_of rfl (wp_storeA b4 _ _ rfl rfl rfl (by kernel_rfl) rfl rfl rfl (fun W8 b8 hg => ?_))
        refine hKc.out _ _ ⟨below_far hS.1 hS.1.size (by omega) hg, hS.2.1.far hg (by omega), hS.2.2.1.far hg (by omega), hS.2.2.2.1.far hg (by omega), hS.2.2.2.2.far hg (by omega)⟩ (fun hS => ?_)
        clear hKc Kc
        refine takeH (i := 11) (d := some 5) (v := ?v12) rfl rfl (by kernel_rfl) (by kernel_rfl) (by kernel_rfl) (fun _ _ _ h => h) (Or.inl ⟨by rfl, ?h12⟩) hS ?_
        case h12 => intro W _; go_simp; try with_reducible rfl
        simp only [Act.put, List.setIfInBounds_toArray, List.set_cons_zero, List.set_cons_succ]
        refine wpAnyH_done (by kernel_rfl) ?_ _
        go_wp2
        exact bodyPost_ret (res_cell_tmp rfl b8 (by kernel_rfl) rfl rfl) rfl ⟨rfl, hS.1⟩
      · have hge : Y ≤ X := by omega
        have HR : Hid _ := Lib.hid (R3.out rfl hge)
        have HGE : Hid _ := Lib.hid hge
        clear hlt hge
        go_wp2_with (first | (refine wl_loadC b2 rfl (by kernel_rfl) _ rfl (j := 0) rfl rfl ?_) | (refine wl_loadC b3 rfl (by kernel_rfl) _ rfl (j := 0) rfl rfl ?_) | (refine wl_loadA r7.blk rfl (agg_num Al) _ rfl rfl ?_) | (refine wl_loadA r8.blk rfl (agg_num Bl) _ rfl rfl ?_))
        refine (pcmp_not A B HA.out.1 HB.out.1 (by rw [HA.out.2, HB.out.2]; exact HGE.out) _).mono ?_
        rintro e W5 ⟨⟨z, rfl, z0, z1⟩, hb⟩
        replace hB := below_step hB hb
        replace b2 := b2.keep hb
        replace b3 := b3.keep hb
        replace b4 := b4.keep hb
        replace r7 := r7.keep hb
        replace r8 := r8.keep hb
        clear hb
        go_wp2_with (first | (refine wl_loadC b2 rfl (by kernel_rfl) _ rfl (j := 0) rfl rfl ?_) | (refine wl_loadC b3 rfl (by kernel_rfl) _ rfl (j := 0) rfl rfl ?_) | (refine wl_loadA r7.blk rfl (agg_num Al) _ rfl rfl ?_) | (refine wl_loadA r8.blk rfl (agg_num Bl) _ rfl rfl ?_))
        refine wp_region_held_drew (S := fun W : World => Below w.heap.size w W ∧ Blk W w.heap.size 23 #[.bool n, .string s, .int .i64 (T : Int)] ∧ Blk W W2.heap.size 23 #[.bool !n, .string t, .int .i64 (U : Int)] ∧ Row24 W g7 A ∧ Row24 W g8 B) (by kernel_rfl) ⟨below_step hB (below_drew _), b2.drew, b3.drew, r7.drewR, r8.drewR⟩ (fun hS => ?_)
        replace b4 := b4.drew
        refine takeH (i := 0) (d := some 51) (v := ?v13) rfl rfl (by kernel_rfl) (by kernel_rfl) (by kernel_rfl) (fun _ _ _ h => h) (Or.inl ⟨by rfl, ?h13⟩) hS ?_
        case h13 => intro W _; go_simp; try with_reducible rfl
        simp only [Act.put, List.setIfInBounds_toArray, List.set_cons_zero, List.set_cons_succ]
        refine takeH (i := 1) (d := some 52) (v := _) rfl rfl (by kernel_rfl) (by kernel_rfl) (by kernel_rfl) (fun _ _ _ h => h) (yields_C rfl (by rfl) (by kernel_rfl) _ rfl (j := 0) rfl rfl (fun W hW => hW.2.1)) hS ?_
        simp only [Act.put, List.setIfInBounds_toArray, List.set_cons_zero, List.set_cons_succ]
        refine takeH (i := 2) (d := some 53) (v := _) rfl rfl (by kernel_rfl) (by kernel_rfl) (by kernel_rfl) (fun _ _ _ h => h) (yields_A rfl (by rfl) (agg_num Al) _ rfl rfl (fun W hW => (hW.2.2.2.1).blk)) hS ?_
        simp only [Act.put, List.setIfInBounds_toArray, List.set_cons_zero, List.set_cons_succ]
        refine takeH (i := 3) (d := some 54) (v := _) rfl rfl (by kernel_rfl) (by kernel_rfl) (by kernel_rfl) (fun _ _ _ h => h) (yields_A rfl (by rfl) (agg_num Bl) _ rfl rfl (fun W hW => (hW.2.2.2.2).blk)) hS ?_
        simp only [Act.put, List.setIfInBounds_toArray, List.set_cons_zero, List.set_cons_succ]
        refine takeH (i := 6) (d := some 57) (v := ?v14) rfl rfl (by kernel_rfl) (by kernel_rfl) (by kernel_rfl) (fun _ _ _ h => h) (Or.inl ⟨by rfl, ?h14⟩) hS ?_
        case h14 => intro W _; go_simp; try with_reducible rfl
        simp only [Act.put, List.setIfInBounds_toArray, List.set_cons_zero, List.set_cons_succ]
        refine wpAnyH_ready (rs := [4]) (by kernel_rfl) (by simp) ?_
        refine AllReadyH.cons rfl (fun Kc hKc => ?_) AllReadyH.nil
        go_simp
        refine (pminus_any A B HA.out.1 HB.out.1 (by rw [HA.out.2, HB.out.2]; exact HGE.out) _).mono ?_
        rintro e W5 ⟨⟨O, rfl, hO⟩, hb⟩
        have HO : Hid _ := Lib.hid hO
        clear hO
        replace b4 := b4.keep hb
        refine hKc.out _ _ ⟨below_step hS.1 hb, hS.2.1.keep hb, hS.2.2.1.keep hb, hS.2.2.2.1.keep hb, hS.2.2.2.2.keep hb⟩ (fun hS => ?_)
        clear hKc Kc
        refine wpAnyH_ready (rs := [5]) (by kernel_rfl) (by simp) ?_
        refine AllReadyH.cons rfl (fun Kc hKc => ?_) AllReadyH.nil
        go_simp
        refine (pdigits_any O HO.out.1 _ (HP.out.keep hS.1)).mono ?_
        rintro e W6 ⟨⟨u, rfl, hu⟩, hb⟩
        have HU : Hid _ := Lib.hid hu
        clear hu
        replace b4 := b4.keep hb
        refine hKc.out _ _ ⟨below_step hS.1 hb, hS.2.1.keep hb, hS.2.2.1.keep hb, hS.2.2.2.1.keep hb, hS.2.2.2.2.keep hb⟩ (fun hS => ?_)
        clear hKc Kc
        refine wpAnyH_ready (rs := [7]) (by kernel_rfl) (by simp) ?_
        refine AllReadyH.cons rfl (fun Kc hKc => ?_) AllReadyH.nil
        go_simp
        refine (pof_is _ u M (Nat.le_trans (digs_size (k := 120) HU.out (by rw [HO.out.2, HA.out.2, HB.out.2]; exact Nat.lt_of_le_of_lt (Nat.sub_le _ _) HX.out) (by decide)) (by decide)) (by omega) (digs_all HU.out) r (by rw [val_of HU.out, HO.out.2, HA.out.2, HB.out.2]; exact HR.out) _).mono ?_
        rintro e W7 ⟨rfl, hb⟩
        replace b4 := b4.keep hb
        refine hKc.out _ _ ⟨below_step hS.1 hb, hS.2.1.keep hb, hS.2.2.1.keep hb, hS.2.2.2.1.keep hb, hS.2.2.2.2.keep hb⟩ (fun hS => ?_)
        clear hKc Kc
        refine takeH (i := 8) (d := some 59) (v := ?v15) rfl rfl (by kernel_rfl) (by kernel_rfl) (by kernel_rfl) (fun _ _ _ h => h) (Or.inl ⟨by rfl, ?h15⟩) hS ?_
        case h15 => intro W _; go_simp; try with_reducible rfl
        simp only [Act.put, List.setIfInBounds_toArray, List.set_cons_zero, List.set_cons_succ]
        refine takeH (i := 9) (d := some 60) (v := ?v16) rfl rfl (by kernel_rfl) (by kernel_rfl) (by kernel_rfl) (fun _ _ _ h => h) (Or.inl ⟨by rfl, ?h16⟩) hS ?_
        case h16 => intro W _; go_simp; try with_reducible rfl
        simp only [Act.put, List.setIfInBounds_toArray, List.set_cons_zero, List.set_cons_succ]
        refine wpAnyH_ready (rs := [10]) (by kernel_rfl) (by simp) ?_
        refine AllReadyH.cons rfl (fun Kc hKc => ?_) AllReadyH.nil
        refine st_of rfl (wp_storeA b4 _ _ rfl rfl rfl (by kernel_rfl) rfl rfl rfl (fun W8 b8 hg => ?_))
        refine hKc.out _ _ ⟨below_far hS.1 hS.1.size (by omega) hg, hS.2.1.far hg (by omega), hS.2.2.1.far hg (by omega), hS.2.2.2.1.far hg (by omega), hS.2.2.2.2.far hg (by omega)⟩ (fun hS => ?_)
        clear hKc Kc
        refine takeH (i := 11) (d := some 5) (v := ?v17) rfl rfl (by kernel_rfl) (by kernel_rfl) (by kernel_rfl) (fun _ _ _ h => h) (Or.inl ⟨by rfl, ?h17⟩) hS ?_
        case h17 => intro W _; go_simp; try with_reducible rfl
        simp only [Act.put, List.setIfInBounds_toArray, List.set_cons_zero, List.set_cons_succ]
        refine wpAnyH_done (by kernel_rfl) ?_ _
        go_wp2
        exact bodyPost_ret (res_cell_tmp rfl b8 (by kernel_rfl) rfl rfl) rfl ⟨rfl, hS.1⟩
end Go.Proofs.YthmmjihldkjhhaaGreatDoor
