/-
  What Text of the program returns.
-/
import Derived.Test.YthmmjihldkjhhaaGreatDoorRtext
import Derived.Test.YthmmjihldkjhhaaGreatDoorPread
namespace Go.Proofs.YthmmjihldkjhhaaGreatDoor
open Go Go.RowKit

set_option maxRecDepth 100000 in
set_option maxHeartbeats 4000000 in
theorem ptext_no (n : Bool) (s : ByteArray) (S : Int) (hs : s.size ≤ 1000000) (hk : okB n s S = false) (w : World) : Calls Tryz.prog 11 #[.agg #[.bool n, .string s, .int .i64 S]] w fun e w' => e = .returned (.tuple #[.string ⟨#[]⟩, .int .i64 2]) ∧ Below w.heap.size w w' := by
  have C := Lib.hid (pchecked1_no n s S hs hk)
  clear hk
  go_enter Tryz.func11, Tryz.ntmps11
  go_wp2_with (first
    | (refine wl_boxA rfl (.tmp 0) rfl rfl (fun W2 b2 hb2 => ?_); have hB := hb2; have l2 := b2.lt; clear hb2)
    | (refine wl_loadA (ty := 23) b2 rfl (by kernel_rfl) _ rfl rfl ?_)
    | (go_at_call 43; refine (C.out _ _ (by simp [World.cell?_alloc_new]) (by simp [World.cell?_alloc_new]) (by simp [World.cell?_alloc_new])).mono ?_; rintro e W5 ⟨rfl, hb⟩; replace hB := below_step (below_step hB (below_new _ _)) hb; replace b2 := (Blk.old b2 _).keep hb; clear hb))
  go_ret2
  exact ⟨rfl, hB⟩
set_option maxRecDepth 100000 in
set_option maxHeartbeats 4000000 in
theorem ptext_t0 (s : ByteArray) (S : Nat) (hs : s.size ≤ 60) (hp : 1 ≤ s.size) (hS60 : S ≤ 60) (hS : S = 0) (hk : okB true s (S : Int) = true) (w : World) : Calls Tryz.prog 11 #[.agg #[.bool true, .string s, .int .i64 (S : Int)]] w fun e w' => e = .returned (.tuple #[.string (str (Dc.txt true (bts s) S)), .int .i64 0]) ∧ Below w.heap.size w w' := by
  have C := Lib.hid (pchecked1_yes true s (S : Int) (by omega) hk)
  obtain ⟨c, hc⟩ : ∃ c, S + 1 - s.size = c := ⟨_, rfl⟩
  have hcl : c ≤ 61 := by omega
  have w1 : IntKind.i64.wrap ((S : Int) + 1) = (S : Int) + 1 := by rw [IntKind.wrap_i64]; omega
  have w2 : IntKind.i64.wrap ((S : Int) + 1 - (s.size : Int)) = (S : Int) + 1 - (s.size : Int) := by rw [IntKind.wrap_i64]; omega
  have hmx : max 0 ((S : Int) + 1 - (s.size : Int)) = (c : Int) := by omega
  have CR := Lib.hid (repeat_zeros c (by omega))
  have dS : decide (0 < S) = false := decide_eq_false (by omega)
  have HS := Lib.hid hS
  have HCC := Lib.hid hc
  clear hk hc hS
  go_enter Tryz.func11, Tryz.ntmps11
  go_upto_region 3 with (first
    | (refine wl_boxA rfl (.tmp 0) rfl rfl (fun W2 b2 hb2 => ?_); have hB := hb2; have l2 := b2.lt; clear hb2)
    | (refine wl_loadA (ty := 23) b2 rfl (by kernel_rfl) _ rfl rfl ?_)
    | (go_at_call 43; refine (C.out _ _ (by simp [World.cell?_alloc_new]) (by simp [World.cell?_alloc_new]) (by simp [World.cell?_alloc_new])).mono ?_; rintro e W5 ⟨rfl, hb⟩; replace hB := below_step (below_step hB (below_new _ _)) hb; replace b2 := (Blk.old b2 _).keep hb; clear hb))
  refine wp_region_held_drew (S := fun W : World => Below w.heap.size w W ∧ Blk W w.heap.size 23 #[.bool true, .string s, .int .i64 (S : Int)]) (by kernel_rfl) ⟨below_step hB (below_drew _), b2.drew⟩ (fun hS => ?_)
  refine takeH (i := 0) (d := some 10) (v := ?v1) rfl rfl (by kernel_rfl) (by kernel_rfl) (by kernel_rfl) (fun _ _ _ h => h) (Or.inl ⟨by rfl, ?h1⟩) hS ?_
  case h1 => intro W _; go_simp; try with_reducible rfl
  simp only [Act.put, List.setIfInBounds_toArray, List.set_cons_zero, List.set_cons_succ]
  refine takeH (i := 1) (d := some 11) (v := .int .i64 (S : Int)) rfl rfl (by kernel_rfl) (by kernel_rfl) (by kernel_rfl) (fun _ _ _ h => h) (yields_C rfl (by rfl) (by kernel_rfl) _ rfl (j := 2) rfl rfl (fun W hW => hW.2)) hS ?_
  simp only [Act.put, List.setIfInBounds_toArray, List.set_cons_zero, List.set_cons_succ]
  refine takeH (i := 2) (d := some 12) (v := ?v2) rfl rfl (by kernel_rfl) (by kernel_rfl) (by kernel_rfl) (fun _ _ _ h => h) (Or.inl ⟨by rfl, ?h2⟩) hS ?_
  case h2 => intro W _; go_simp; try with_reducible rfl
  simp only [Act.put, List.setIfInBounds_toArray, List.set_cons_zero, List.set_cons_succ]
  refine takeH (i := 3) (d := some 13) (v := ?v3) rfl rfl (by kernel_rfl) (by kernel_rfl) (by kernel_rfl) (fun _ _ _ h => h) (Or.inl ⟨by rfl, ?h3⟩) hS ?_
  case h3 => intro W _; go_simp; try with_reducible rfl
  simp only [Act.put, List.setIfInBounds_toArray, List.set_cons_zero, List.set_cons_succ]
  refine takeH (i := 4) (d := some 14) (v := .string s) rfl rfl (by kernel_rfl) (by kernel_rfl) (by kernel_rfl) (fun _ _ _ h => h) (yields_C rfl (by rfl) (by kernel_rfl) _ rfl (j := 1) rfl rfl (fun W hW => hW.2)) hS ?_
  simp only [Act.put, List.setIfInBounds_toArray, List.set_cons_zero, List.set_cons_succ]
  refine takeH (i := 5) (d := some 15) (v := ?v4) rfl rfl (by kernel_rfl) (by kernel_rfl) (by kernel_rfl) (fun _ _ _ h => h) (Or.inl ⟨by rfl, ?h4⟩) hS ?_
  case h4 => intro W _; go_simp; try with_reducible rfl
  simp only [Act.put, List.setIfInBounds_toArray, List.set_cons_zero, List.set_cons_succ]
  refine takeH (i := 6) (d := some 16) (v := ?v5) rfl rfl (by kernel_rfl) (by kernel_rfl) (by kernel_rfl) (fun _ _ _ h => h) (Or.inl ⟨by rfl, ?h5⟩) hS ?_
  case h5 => intro W _; go_simp; try with_reducible rfl
  simp only [Act.put, List.setIfInBounds_toArray, List.set_cons_zero, List.set_cons_succ]
  refine takeH (i := 7) (d := some 17) (v := ?v6) rfl rfl (by kernel_rfl) (by kernel_rfl) (by kernel_rfl) (fun _ _ _ h => h) (Or.inl ⟨by rfl, ?h6⟩) hS ?_
  case h6 => intro W _; go_simp; try with_reducible rfl
  simp only [Act.put, List.setIfInBounds_toArray, List.set_cons_zero, List.set_cons_succ]
  refine takeH (i := 9) (d := some 19) (v := ?v7) rfl rfl (by kernel_rfl) (by kernel_rfl) (by kernel_rfl) (fun _ _ _ h => h) (Or.inl ⟨by rfl, ?h7⟩) hS ?_
  case h7 => intro W _; go_simp; try with_reducible rfl
  simp only [Act.put, List.setIfInBounds_toArray, List.set_cons_zero, List.set_cons_succ]
  refine takeH (i := 10) (d := some 20) (v := .string s) rfl rfl (by kernel_rfl) (by kernel_rfl) (by kernel_rfl) (fun _ _ _ h => h) (yields_C rfl (by rfl) (by kernel_rfl) _ rfl (j := 1) rfl rfl (fun W hW => hW.2)) hS ?_
  simp only [Act.put, List.setIfInBounds_toArray, List.set_cons_zero, List.set_cons_succ]
  refine wpAnyH_ready (rs := [8]) (by kernel_rfl) (by simp) ?_
  refine AllReadyH.cons rfl (fun Kc hKc => ?_) AllReadyH.nil
  go_simp
  refine (CR.out _).mono ?_
  rintro e W6 ⟨⟨z, rfl, hz1⟩, hb⟩
  have hzl : z.size ≤ 61 := by rw [← bts_length, hz1, List.length_replicate]; omega
  obtain ⟨u, hu⟩ : ∃ u, z ++ s = u := ⟨_, rfl⟩
  have HU := Lib.hid (show bts u = Dc.wide (bts s) S by rw [← hu, str_add, hz1]; unfold Dc.wide; rw [bts_length, HCC.out]); have hul : u.size ≤ 121 := (by rw [← bts_length, HU.out, Dc.wide_length, bts_length]; omega); have HUL := Lib.hid (show u.size = max (S + 1) s.size by rw [← bts_length, HU.out, Dc.wide_length, bts_length]); obtain ⟨k, hk⟩ : ∃ k, u.size - S = k := ⟨_, rfl⟩; have hke : (u.size : Int) - (S : Int) = (k : Int) := (by have := HUL.out; omega); have hk1 : (k : Int) ≤ (u.size : Int) := (by omega); have hk0 : (0 : Int) ≤ (k : Int) := (by omega); have hkl : k ≤ 121 := (by omega); have HK := Lib.hid hk; obtain ⟨x, hx⟩ : ∃ x, u.extract 0 k = x := ⟨_, rfl⟩; obtain ⟨y, hy⟩ : ∃ y, u.extract k u.size = y := ⟨_, rfl⟩; have hbx := Lib.hid (show bts x = (bts u).take k by rw [← hx, bts_extract, List.drop_zero]); have hby := Lib.hid (show bts y = (bts u).drop k by rw [← hy, bts_from]); have hxl : x.size ≤ 121 := (by rw [← bts_length, hbx.out, List.length_take, bts_length]; omega); have hyl : y.size ≤ 121 := (by rw [← bts_length, hby.out, List.length_drop, bts_length]; omega); clear hk
  clear hz1
  refine hKc.out _ _ ⟨below_step hS.1 hb, hS.2.keep hb⟩ (fun hS => ?_)
  clear hKc Kc
  refine takeH (i := 11) (d := some 21) (v := ?v8) rfl rfl (by kernel_rfl) (by kernel_rfl) (by kernel_rfl) (fun _ _ _ h => h) (Or.inl ⟨by rfl, ?h8⟩) hS ?_
  case h8 => intro W _; have hq : ¬ 9223372036854775807 < z.size + s.size := (by omega); go_simp; try with_reducible rfl
  simp only [Act.put, List.setIfInBounds_toArray, List.set_cons_zero, List.set_cons_succ]
  refine takeH (i := 12) (d := some 4) (v := ?v9) rfl rfl (by kernel_rfl) (by kernel_rfl) (by kernel_rfl) (fun _ _ _ h => h) (Or.inl ⟨by rfl, ?h9⟩) hS ?_
  case h9 => intro W _; go_simp; try with_reducible rfl
  simp only [Act.put, List.setIfInBounds_toArray, List.set_cons_zero, List.set_cons_succ]
  refine wpAnyH_done (by kernel_rfl) ?_ _
  clear b2 hB
  obtain ⟨hB, b2⟩ := hS
  go_wp2_with (first
    | (refine wl_loadC b2 rfl (by kernel_rfl) _ rfl (j := 0) rfl rfl ?_)
    | (refine wl_loadC b2 rfl (by kernel_rfl) _ rfl (j := 1) rfl rfl ?_)
    | (refine wl_loadC b2 rfl (by kernel_rfl) _ rfl (j := 2) rfl rfl ?_))
  go_ret2
  exact ⟨ret_text ((text_whole (n := true) (l := bts s) (by rw [HU.out, HS.out]) _ (by rw [bts_45]; rfl)).trans (by rw [HS.out])), hB⟩
set_option maxRecDepth 100000 in
set_option maxHeartbeats 4000000 in
theorem ptext_tS (s : ByteArray) (S : Nat) (hs : s.size ≤ 60) (hp : 1 ≤ s.size) (hS60 : S ≤ 60) (hS : S ≠ 0) (hk : okB true s (S : Int) = true) (w : World) : Calls Tryz.prog 11 #[.agg #[.bool true, .string s, .int .i64 (S : Int)]] w fun e w' => e = .returned (.tuple #[.string (str (Dc.txt true (bts s) S)), .int .i64 0]) ∧ Below w.heap.size w w' := by
  have C := Lib.hid (pchecked1_yes true s (S : Int) (by omega) hk)
  obtain ⟨c, hc⟩ : ∃ c, S + 1 - s.size = c := ⟨_, rfl⟩
  have hcl : c ≤ 61 := by omega
  have w1 : IntKind.i64.wrap ((S : Int) + 1) = (S : Int) + 1 := by rw [IntKind.wrap_i64]; omega
  have w2 : IntKind.i64.wrap ((S : Int) + 1 - (s.size : Int)) = (S : Int) + 1 - (s.size : Int) := by rw [IntKind.wrap_i64]; omega
  have hmx : max 0 ((S : Int) + 1 - (s.size : Int)) = (c : Int) := by omega
  have CR := Lib.hid (repeat_zeros c (by omega))
  have dS : decide (0 < S) = true := decide_eq_true (by omega)
  have HS := Lib.hid hS
  have HCC := Lib.hid hc
  clear hk hc hS
  go_enter Tryz.func11, Tryz.ntmps11
  go_upto_region 3 with (first
    | (refine wl_boxA rfl (.tmp 0) rfl rfl (fun W2 b2 hb2 => ?_); have hB := hb2; have l2 := b2.lt; clear hb2)
    | (refine wl_loadA (ty := 23) b2 rfl (by kernel_rfl) _ rfl rfl ?_)
    | (go_at_call 43; refine (C.out _ _ (by simp [World.cell?_alloc_new]) (by simp [World.cell?_alloc_new]) (by simp [World.cell?_alloc_new])).mono ?_; rintro e W5 ⟨rfl, hb⟩; replace hB := below_step (below_step hB (below_new _ _)) hb; replace b2 := (Blk.old b2 _).keep hb; clear hb))
  refine wp_region_held_drew (S := fun W : World => Below w.heap.size w W ∧ Blk W w.heap.size 23 #[.bool true, .string s, .int .i64 (S : Int)]) (by kernel_rfl) ⟨below_step hB (below_drew _), b2.drew⟩ (fun hS => ?_)
  refine takeH (i := 0) (d := some 10) (v := ?v10) rfl rfl (by kernel_rfl) (by kernel_rfl) (by kernel_rfl) (fun _ _ _ h => h) (Or.inl ⟨by rfl, ?h10⟩) hS ?_
  case h10 => intro W _; go_simp; try with_reducible rfl
  simp only [Act.put, List.setIfInBounds_toArray, List.set_cons_zero, List.set_cons_succ]
  refine takeH (i := 1) (d := some 11) (v := .int .i64 (S : Int)) rfl rfl (by kernel_rfl) (by kernel_rfl) (by kernel_rfl) (fun _ _ _ h => h) (yields_C rfl (by rfl) (by kernel_rfl) _ rfl (j := 2) rfl rfl (fun W hW => hW.2)) hS ?_
  simp only [Act.put, List.setIfInBounds_toArray, List.set_cons_zero, List.set_cons_succ]
  refine takeH (i := 2) (d := some 12) (v := ?v11) rfl rfl (by kernel_rfl) (by kernel_rfl) (by kernel_rfl) (fun _ _ _ h => h) (Or.inl ⟨by rfl, ?h11⟩) hS ?_
  case h11 => intro W _; go_simp; try with_reducible rfl
  simp only [Act.put, List.setIfInBounds_toArray, List.set_cons_zero, List.set_cons_succ]
  refine takeH (i := 3) (d := some 13) (v := ?v12) rfl rfl (by kernel_rfl) (by kernel_rfl) (by kernel_rfl) (fun _ _ _ h => h) (Or.inl ⟨by rfl, ?h12⟩) hS ?_
  case h12 => intro W _; go_simp; try with_reducible rfl
  simp only [Act.put, List.setIfInBounds_toArray, List.set_cons_zero, List.set_cons_succ]
  refine takeH (i := 4) (d := some 14) (v := .string s) rfl rfl (by kernel_rfl) (by kernel_rfl) (by kernel_rfl) (fun _ _ _ h => h) (yields_C rfl (by rfl) (by kernel_rfl) _ rfl (j := 1) rfl rfl (fun W hW => hW.2)) hS ?_
  simp only [Act.put, List.setIfInBounds_toArray, List.set_cons_zero, List.set_cons_succ]
  refine takeH (i := 5) (d := some 15) (v := ?v13) rfl rfl (by kernel_rfl) (by kernel_rfl) (by kernel_rfl) (fun _ _ _ h => h) (Or.inl ⟨by rfl, ?h13⟩) hS ?_
  case h13 => intro W _; go_simp; try with_reducible rfl
  simp only [Act.put, List.setIfInBounds_toArray, List.set_cons_zero, List.set_cons_succ]
  refine takeH (i := 6) (d := some 16) (v := ?v14) rfl rfl (by kernel_rfl) (by kernel_rfl) (by kernel_rfl) (fun _ _ _ h => h) (Or.inl ⟨by rfl, ?h14⟩) hS ?_
  case h14 => intro W _; go_simp; try with_reducible rfl
  simp only [Act.put, List.setIfInBounds_toArray, List.set_cons_zero, List.set_cons_succ]
  refine takeH (i := 7) (d := some 17) (v := ?v15) rfl rfl (by kernel_rfl) (by kernel_rfl) (by kernel_rfl) (fun _ _ _ h => h) (Or.inl ⟨by rfl, ?h15⟩) hS ?_
  case h15 => intro W _; go_simp; try with_reducible rfl
  simp only [Act.put, List.setIfInBounds_toArray, List.set_cons_zero, List.set_cons_succ]
  refine takeH (i := 9) (d := some 19) (v := ?v16) rfl rfl (by kernel_rfl) (by kernel_rfl) (by kernel_rfl) (fun _ _ _ h => h) (Or.inl ⟨by rfl, ?h16⟩) hS ?_
  case h16 => intro W _; go_simp; try with_reducible rfl
  simp only [Act.put, List.setIfInBounds_toArray, List.set_cons_zero, List.set_cons_succ]
  refine takeH (i := 10) (d := some 20) (v := .string s) rfl rfl (by kernel_rfl) (by kernel_rfl) (by kernel_rfl) (fun _ _ _ h => h) (yields_C rfl (by rfl) (by kernel_rfl) _ rfl (j := 1) rfl rfl (fun W hW => hW.2)) hS ?_
  simp only [Act.put, List.setIfInBounds_toArray, List.set_cons_zero, List.set_cons_succ]
  refine wpAnyH_ready (rs := [8]) (by kernel_rfl) (by simp) ?_
  refine AllReadyH.cons rfl (fun Kc hKc => ?_) AllReadyH.nil
  go_simp
  refine (CR.out _).mono ?_
  rintro e W6 ⟨⟨z, rfl, hz1⟩, hb⟩
  have hzl : z.size ≤ 61 := by rw [← bts_length, hz1, List.length_replicate]; omega
  obtain ⟨u, hu⟩ : ∃ u, z ++ s = u := ⟨_, rfl⟩
  have HU := Lib.hid (show bts u = Dc.wide (bts s) S by rw [← hu, str_add, hz1]; unfold Dc.wide; rw [bts_length, HCC.out]); have hul : u.size ≤ 121 := (by rw [← bts_length, HU.out, Dc.wide_length, bts_length]; omega); have HUL := Lib.hid (show u.size = max (S + 1) s.size by rw [← bts_length, HU.out, Dc.wide_length, bts_length]); obtain ⟨k, hk⟩ : ∃ k, u.size - S = k := ⟨_, rfl⟩; have hke : (u.size : Int) - (S : Int) = (k : Int) := (by have := HUL.out; omega); have hk1 : (k : Int) ≤ (u.size : Int) := (by omega); have hk0 : (0 : Int) ≤ (k : Int) := (by omega); have hkl : k ≤ 121 := (by omega); have HK := Lib.hid hk; obtain ⟨x, hx⟩ : ∃ x, u.extract 0 k = x := ⟨_, rfl⟩; obtain ⟨y, hy⟩ : ∃ y, u.extract k u.size = y := ⟨_, rfl⟩; have hbx := Lib.hid (show bts x = (bts u).take k by rw [← hx, bts_extract, List.drop_zero]); have hby := Lib.hid (show bts y = (bts u).drop k by rw [← hy, bts_from]); have hxl : x.size ≤ 121 := (by rw [← bts_length, hbx.out, List.length_take, bts_length]; omega); have hyl : y.size ≤ 121 := (by rw [← bts_length, hby.out, List.length_drop, bts_length]; omega); clear hk
  clear hz1
  refine hKc.out _ _ ⟨below_step hS.1 hb, hS.2.keep hb⟩ (fun hS => ?_)
  clear hKc Kc
  refine takeH (i := 11) (d := some 21) (v := ?v17) rfl rfl (by kernel_rfl) (by kernel_rfl) (by kernel_rfl) (fun _ _ _ h => h) (Or.inl ⟨by rfl, ?h17⟩) hS ?_
  case h17 => intro W _; have hq : ¬ 9223372036854775807 < z.size + s.size := (by omega); go_simp; try with_reducible rfl
  simp only [Act.put, List.setIfInBounds_toArray, List.set_cons_zero, List.set_cons_succ]
  refine takeH (i := 12) (d := some 4) (v := ?v18) rfl rfl (by kernel_rfl) (by kernel_rfl) (by kernel_rfl) (fun _ _ _ h => h) (Or.inl ⟨by rfl, ?h18⟩) hS ?_
  case h18 => intro W _; go_simp; try with_reducible rfl
  simp only [Act.put, List.setIfInBounds_toArray, List.set_cons_zero, List.set_cons_succ]
  refine wpAnyH_done (by kernel_rfl) ?_ _
  clear b2 hB
  obtain ⟨hB, b2⟩ := hS
  go_wp2_with (first
    | (refine wl_loadC b2 rfl (by kernel_rfl) _ rfl (j := 0) rfl rfl ?_)
    | (refine wl_loadC b2 rfl (by kernel_rfl) _ rfl (j := 1) rfl rfl ?_)
    | (refine wl_loadC b2 rfl (by kernel_rfl) _ rfl (j := 2) rfl rfl ?_))
  go_quiet (fail)
  go_wp2_with (first
    | (refine wl_loadC (b2.drewN _) rfl (by kernel_rfl) _ rfl (j := 0) rfl rfl ?_)
    | (refine wl_loadC (b2.drewN _) rfl (by kernel_rfl) _ rfl (j := 1) rfl rfl ?_)
    | (refine wl_loadC (b2.drewN _) rfl (by kernel_rfl) _ rfl (j := 2) rfl rfl ?_))
  go_ret2
  exact ⟨ret_text (text_dotted HS.out HU.out _ (by rw [bts_45, bts_46, hbx.out, hby.out, HK.out]; rfl)), below_drewN hB _⟩
set_option maxRecDepth 100000 in
set_option maxHeartbeats 4000000 in
theorem ptext_f0 (s : ByteArray) (S : Nat) (hs : s.size ≤ 60) (hp : 1 ≤ s.size) (hS60 : S ≤ 60) (hS : S = 0) (hk : okB false s (S : Int) = true) (w : World) : Calls Tryz.prog 11 #[.agg #[.bool false, .string s, .int .i64 (S : Int)]] w fun e w' => e = .returned (.tuple #[.string (str (Dc.txt false (bts s) S)), .int .i64 0]) ∧ Below w.heap.size w w' := by
  have C := Lib.hid (pchecked1_yes false s (S : Int) (by omega) hk)
  obtain ⟨c, hc⟩ : ∃ c, S + 1 - s.size = c := ⟨_, rfl⟩
  have hcl : c ≤ 61 := by omega
  have w1 : IntKind.i64.wrap ((S : Int) + 1) = (S : Int) + 1 := by rw [IntKind.wrap_i64]; omega
  have w2 : IntKind.i64.wrap ((S : Int) + 1 - (s.size : Int)) = (S : Int) + 1 - (s.size : Int) := by rw [IntKind.wrap_i64]; omega
  have hmx : max 0 ((S : Int) + 1 - (s.size : Int)) = (c : Int) := by omega
  have CR := Lib.hid (repeat_zeros c (by omega))
  have dS : decide (0 < S) = false := decide_eq_false (by omega)
  have HS := Lib.hid hS
  have HCC := Lib.hid hc
  clear hk hc hS
  go_enter Tryz.func11, Tryz.ntmps11
  go_upto_region 3 with (first
    | (refine wl_boxA rfl (.tmp 0) rfl rfl (fun W2 b2 hb2 => ?_); have hB := hb2; have l2 := b2.lt; clear hb2)
    | (refine wl_loadA (ty := 23) b2 rfl (by kernel_rfl) _ rfl rfl ?_)
    | (go_at_call 43; refine (C.out _ _ (by simp [World.cell?_alloc_new]) (by simp [World.cell?_alloc_new]) (by simp [World.cell?_alloc_new])).mono ?_; rintro e W5 ⟨rfl, hb⟩; replace hB := below_step (below_step hB (below_new _ _)) hb; replace b2 := (Blk.old b2 _).keep hb; clear hb))
  refine wp_region_held_drew (S := fun W : World => Below w.heap.size w W ∧ Blk W w.heap.size 23 #[.bool false, .string s, .int .i64 (S : Int)]) (by kernel_rfl) ⟨below_step hB (below_drew _), b2.drew⟩ (fun hS => ?_)
  refine takeH (i := 0) (d := some 10) (v := ?v19) rfl rfl (by kernel_rfl) (by kernel_rfl) (by kernel_rfl) (fun _ _ _ h => h) (Or.inl ⟨by rfl, ?h19⟩) hS ?_
  case h19 => intro W _; go_simp; try with_reducible rfl
  simp only [Act.put, List.setIfInBounds_toArray, List.set_cons_zero, List.set_cons_succ]
  refine takeH (i := 1) (d := some 11) (v := .int .i64 (S : Int)) rfl rfl (by kernel_rfl) (by kernel_rfl) (by kernel_rfl) (fun _ _ _ h => h) (yields_C rfl (by rfl) (by kernel_rfl) _ rfl (j := 2) rfl rfl (fun W hW => hW.2)) hS ?_
  simp only [Act.put, List.setIfInBounds_toArray, List.set_cons_zero, List.set_cons_succ]
  refine takeH (i := 2) (d := some 12) (v := ?v20) rfl rfl (by kernel_rfl) (by kernel_rfl) (by kernel_rfl) (fun _ _ _ h => h) (Or.inl ⟨by rfl, ?h20⟩) hS ?_
  case h20 => intro W _; go_simp; try with_reducible rfl
  simp only [Act.put, List.setIfInBounds_toArray, List.set_cons_zero, List.set_cons_succ]
  refine takeH (i := 3) (d := some 13) (v := ?v21) rfl rfl (by kernel_rfl) (by kernel_rfl) (by kernel_rfl) (fun _ _ _ h => h) (Or.inl ⟨by rfl, ?h21⟩) hS ?_
  case h21 => intro W _; go_simp; try with_reducible rfl
  simp only [Act.put, List.setIfInBounds_toArray, List.set_cons_zero, List.set_cons_succ]
  refine takeH (i := 4) (d := some 14) (v := .string s) rfl rfl (by kernel_rfl) (by kernel_rfl) (by kernel_rfl) (fun _ _ _ h => h) (yields_C rfl (by rfl) (by kernel_rfl) _ rfl (j := 1) rfl rfl (fun W hW => hW.2)) hS ?_
  simp only [Act.put, List.setIfInBounds_toArray, List.set_cons_zero, List.set_cons_succ]
  refine takeH (i := 5) (d := some 15) (v := ?v22) rfl rfl (by kernel_rfl) (by kernel_rfl) (by kernel_rfl) (fun _ _ _ h => h) (Or.inl ⟨by rfl, ?h22⟩) hS ?_
  case h22 => intro W _; go_simp; try with_reducible rfl
  simp only [Act.put, List.setIfInBounds_toArray, List.set_cons_zero, List.set_cons_succ]
  refine takeH (i := 6) (d := some 16) (v := ?v23) rfl rfl (by kernel_rfl) (by kernel_rfl) (by kernel_rfl) (fun _ _ _ h => h) (Or.inl ⟨by rfl, ?h23⟩) hS ?_
  case h23 => intro W _; go_simp; try with_reducible rfl
  simp only [Act.put, List.setIfInBounds_toArray, List.set_cons_zero, List.set_cons_succ]
  refine takeH (i := 7) (d := some 17) (v := ?v24) rfl rfl (by kernel_rfl) (by kernel_rfl) (by kernel_rfl) (fun _ _ _ h => h) (Or.inl ⟨by rfl, ?h24⟩) hS ?_
  case h24 => intro W _; go_simp; try with_reducible rfl
  simp only [Act.put, List.setIfInBounds_toArray, List.set_cons_zero, List.set_cons_succ]
  refine takeH (i := 9) (d := some 19) (v := ?v25) rfl rfl (by kernel_rfl) (by kernel_rfl) (by kernel_rfl) (fun _ _ _ h => h) (Or.inl ⟨by rfl, ?h25⟩) hS ?_
  case h25 => intro W _; go_simp; try with_reducible rfl
  simp only [Act.put, List.setIfInBounds_toArray, List.set_cons_zero, List.set_cons_succ]
  refine takeH (i := 10) (d := some 20) (v := .string s) rfl rfl (by kernel_rfl) (by kernel_rfl) (by kernel_rfl) (fun _ _ _ h => h) (yields_C rfl (by rfl) (by kernel_rfl) _ rfl (j := 1) rfl rfl (fun W hW => hW.2)) hS ?_
  simp only [Act.put, List.setIfInBounds_toArray, List.set_cons_zero, List.set_cons_succ]
  refine wpAnyH_ready (rs := [8]) (by kernel_rfl) (by simp) ?_
  refine AllReadyH.cons rfl (fun Kc hKc => ?_) AllReadyH.nil
  go_simp
  refine (CR.out _).mono ?_
  rintro e W6 ⟨⟨z, rfl, hz1⟩, hb⟩
  have hzl : z.size ≤ 61 := by rw [← bts_length, hz1, List.length_replicate]; omega
  obtain ⟨u, hu⟩ : ∃ u, z ++ s = u := ⟨_, rfl⟩
  have HU := Lib.hid (show bts u = Dc.wide (bts s) S by rw [← hu, str_add, hz1]; unfold Dc.wide; rw [bts_length, HCC.out]); have hul : u.size ≤ 121 := (by rw [← bts_length, HU.out, Dc.wide_length, bts_length]; omega); have HUL := Lib.hid (show u.size = max (S + 1) s.size by rw [← bts_length, HU.out, Dc.wide_length, bts_length]); obtain ⟨k, hk⟩ : ∃ k, u.size - S = k := ⟨_, rfl⟩; have hke : (u.size : Int) - (S : Int) = (k : Int) := (by have := HUL.out; omega); have hk1 : (k : Int) ≤ (u.size : Int) := (by omega); have hk0 : (0 : Int) ≤ (k : Int) := (by omega); have hkl : k ≤ 121 := (by omega); have HK := Lib.hid hk; obtain ⟨x, hx⟩ : ∃ x, u.extract 0 k = x := ⟨_, rfl⟩; obtain ⟨y, hy⟩ : ∃ y, u.extract k u.size = y := ⟨_, rfl⟩; have hbx := Lib.hid (show bts x = (bts u).take k by rw [← hx, bts_extract, List.drop_zero]); have hby := Lib.hid (show bts y = (bts u).drop k by rw [← hy, bts_from]); have hxl : x.size ≤ 121 := (by rw [← bts_length, hbx.out, List.length_take, bts_length]; omega); have hyl : y.size ≤ 121 := (by rw [← bts_length, hby.out, List.length_drop, bts_length]; omega); clear hk
  clear hz1
  refine hKc.out _ _ ⟨below_step hS.1 hb, hS.2.keep hb⟩ (fun hS => ?_)
  clear hKc Kc
  refine takeH (i := 11) (d := some 21) (v := ?v26) rfl rfl (by kernel_rfl) (by kernel_rfl) (by kernel_rfl) (fun _ _ _ h => h) (Or.inl ⟨by rfl, ?h26⟩) hS ?_
  case h26 => intro W _; have hq : ¬ 9223372036854775807 < z.size + s.size := (by omega); go_simp; try with_reducible rfl
  simp only [Act.put, List.setIfInBounds_toArray, List.set_cons_zero, List.set_cons_succ]
  refine takeH (i := 12) (d := some 4) (v := ?v27) rfl rfl (by kernel_rfl) (by kernel_rfl) (by kernel_rfl) (fun _ _ _ h => h) (Or.inl ⟨by rfl, ?h27⟩) hS ?_
  case h27 => intro W _; go_simp; try with_reducible rfl
  simp only [Act.put, List.setIfInBounds_toArray, List.set_cons_zero, List.set_cons_succ]
  refine wpAnyH_done (by kernel_rfl) ?_ _
  clear b2 hB
  obtain ⟨hB, b2⟩ := hS
  go_wp2_with (first
    | (refine wl_loadC b2 rfl (by kernel_rfl) _ rfl (j := 0) rfl rfl ?_)
    | (refine wl_loadC b2 rfl (by kernel_rfl) _ rfl (j := 1) rfl rfl ?_)
    | (refine wl_loadC b2 rfl (by kernel_rfl) _ rfl (j := 2) rfl rfl ?_))
  go_ret2
  exact ⟨ret_text ((text_whole (n := false) (l := bts s) (by rw [HU.out, HS.out]) _ (by rfl)).trans (by rw [HS.out])), hB⟩
set_option maxRecDepth 100000 in
set_option maxHeartbeats 4000000 in
theorem ptext_fS (s : ByteArray) (S : Nat) (hs : s.size ≤ 60) (hp : 1 ≤ s.size) (hS60 : S ≤ 60) (hS : S ≠ 0) (hk : okB false s (S : Int) = true) (w : World) : Calls Tryz.prog 11 #[.agg #[.bool false, .string s, .int .i64 (S : Int)]] w fun e w' => e = .returned (.tuple #[.string (str (Dc.txt false (bts s) S)), .int .i64 0]) ∧ Below w.heap.size w w' := by
  have C := Lib.hid (pchecked1_yes false s (S : Int) (by omega) hk)
  obtain ⟨c, hc⟩ : ∃ c, S + 1 - s.size = c := ⟨_, rfl⟩
  have hcl : c ≤ 61 := by omega
  have w1 : IntKind.i64.wrap ((S : Int) + 1) = (S : Int) + 1 := by rw [IntKind.wrap_i64]; omega
  have w2 : IntKind.i64.wrap ((S : Int) + 1 - (s.size : Int)) = (S : Int) + 1 - (s.size : Int) := by rw [IntKind.wrap_i64]; omega
  have hmx : max 0 ((S : Int) + 1 - (s.size : Int)) = (c : Int) := by omega
  have CR := Lib.hid (repeat_zeros c (by omega))
  have dS : decide (0 < S) = true := decide_eq_true (by omega)
  have HS := Lib.hid hS
  have HCC := Lib.hid hc
  clear hk hc hS
  go_enter Tryz.func11, Tryz.ntmps11
  go_upto_region 3 with (first
    | (refine wl_boxA rfl (.tmp 0) rfl rfl (fun W2 b2 hb2 => ?_); have hB := hb2; have l2 := b2.lt; clear hb2)
    | (refine wl_loadA (ty := 23) b2 rfl (by kernel_rfl) _ rfl rfl ?_)
    | (go_at_call 43; refine (C.out _ _ (by simp [World.cell?_alloc_new]) (by simp [World.cell?_alloc_new]) (by simp [World.cell?_alloc_new])).mono ?_; rintro e W5 ⟨rfl, hb⟩; replace hB := below_step (below_step hB (below_new _ _)) hb; replace b2 := (Blk.old b2 _).keep hb; clear hb))
  refine wp_region_held_drew (S := fun W : World => Below w.heap.size w W ∧ Blk W w.heap.size 23 #[.bool false, .string s, .int .i64 (S : Int)]) (by kernel_rfl) ⟨below_step hB (below_drew _), b2.drew⟩ (fun hS => ?_)
  refine takeH (i := 0) (d := some 10) (v := ?v28) rfl rfl (by kernel_rfl) (by kernel_rfl) (by kernel_rfl) (fun _ _ _ h => h) (Or.inl ⟨by rfl, ?h28⟩) hS ?_
  case h28 => intro W _; go_simp; try with_reducible rfl
  simp only [Act.put, List.setIfInBounds_toArray, List.set_cons_zero, List.set_cons_succ]
  refine takeH (i := 1) (d := some 11) (v := .int .i64 (S : Int)) rfl rfl (by kernel_rfl) (by kernel_rfl) (by kernel_rfl) (fun _ _ _ h => h) (yields_C rfl (by rfl) (by kernel_rfl) _ rfl (j := 2) rfl rfl (fun W hW => hW.2)) hS ?_
  simp only [Act.put, List.setIfInBounds_toArray, List.set_cons_zero, List.set_cons_succ]
  refine takeH (i := 2) (d := some 12) (v := ?v29) rfl rfl (by kernel_rfl) (by kernel_rfl) (by kernel_rfl) (fun _ _ _ h => h) (Or.inl ⟨by rfl, ?h29⟩) hS ?_
  case h29 => intro W _; go_simp; try with_reducible rfl
  simp only [Act.put, List.setIfInBounds_toArray, List.set_cons_zero, List.set_cons_succ]
  refine takeH (i := 3) (d := some 13) (v := ?v30) rfl rfl (by kernel_rfl) (by kernel_rfl) (by kernel_rfl) (fun _ _ _ h => h) (Or.inl ⟨by rfl, ?h30⟩) hS ?_
  case h30 => intro W _; go_simp; try with_reducible rfl
  simp only [Act.put, List.setIfInBounds_toArray, List.set_cons_zero, List.set_cons_succ]
  refine takeH (i := 4) (d := some 14) (v := .string s) rfl rfl (by kernel_rfl) (by kernel_rfl) (by kernel_rfl) (fun _ _ _ h => h) (yields_C rfl (by rfl) (by kernel_rfl) _ rfl (j := 1) rfl rfl (fun W hW => hW.2)) hS ?_
  simp only [Act.put, List.setIfInBounds_toArray, List.set_cons_zero, List.set_cons_succ]
  refine takeH (i := 5) (d := some 15) (v := ?v31) rfl rfl (by kernel_rfl) (by kernel_rfl) (by kernel_rfl) (fun _ _ _ h => h) (Or.inl ⟨by rfl, ?h31⟩) hS ?_
  case h31 => intro W _; go_simp; try with_reducible rfl
  simp only [Act.put, List.setIfInBounds_toArray, List.set_cons_zero, List.set_cons_succ]
  refine takeH (i := 6) (d := some 16) (v := ?v32) rfl rfl (by kernel_rfl) (by kernel_rfl) (by kernel_rfl) (fun _ _ _ h => h) (Or.inl ⟨by rfl, ?h32⟩) hS ?_
  case h32 => intro W _; go_simp; try with_reducible rfl
  simp only [Act.put, List.setIfInBounds_toArray, List.set_cons_zero, List.set_cons_succ]
  refine takeH (i := 7) (d := some 17) (v := ?v33) rfl rfl (by kernel_rfl) (by kernel_rfl) (by kernel_rfl) (fun _ _ _ h => h) (Or.inl ⟨by rfl, ?h33⟩) hS ?_
  case h33 => intro W _; go_simp; try with_reducible rfl
  simp only [Act.put, List.setIfInBounds_toArray, List.set_cons_zero, List.set_cons_succ]
  refine takeH (i := 9) (d := some 19) (v := ?v34) rfl rfl (by kernel_rfl) (by kernel_rfl) (by kernel_rfl) (fun _ _ _ h => h) (Or.inl ⟨by rfl, ?h34⟩) hS ?_
  case h34 => intro W _; go_simp; try with_reducible rfl
  simp only [Act.put, List.setIfInBounds_toArray, List.set_cons_zero, List.set_cons_succ]
  refine takeH (i := 10) (d := some 20) (v := .string s) rfl rfl (by kernel_rfl) (by kernel_rfl) (by kernel_rfl) (fun _ _ _ h => h) (yields_C rfl (by rfl) (by kernel_rfl) _ rfl (j := 1) rfl rfl (fun W hW => hW.2)) hS ?_
  simp only [Act.put, List.setIfInBounds_toArray, List.set_cons_zero, List.set_cons_succ]
  refine wpAnyH_ready (rs := [8]) (by kernel_rfl) (by simp) ?_
  refine AllReadyH.cons rfl (fun Kc hKc => ?_) AllReadyH.nil
  go_simp
  refine (CR.out _).mono ?_
  rintro e W6 ⟨⟨z, rfl, hz1⟩, hb⟩
  have hzl : z.size ≤ 61 := by rw [← bts_length, hz1, List.length_replicate]; omega
  obtain ⟨u, hu⟩ : ∃ u, z ++ s = u := ⟨_, rfl⟩
  have HU := Lib.hid (show bts u = Dc.wide (bts s) S by rw [← hu, str_add, hz1]; unfold Dc.wide; rw [bts_length, HCC.out]); have hul : u.size ≤ 121 := (by rw [← bts_length, HU.out, Dc.wide_length, bts_length]; omega); have HUL := Lib.hid (show u.size = max (S + 1) s.size by rw [← bts_length, HU.out, Dc.wide_length, bts_length]); obtain ⟨k, hk⟩ : ∃ k, u.size - S = k := ⟨_, rfl⟩; have hke : (u.size : Int) - (S : Int) = (k : Int) := (by have := HUL.out; omega); have hk1 : (k : Int) ≤ (u.size : Int) := (by omega); have hk0 : (0 : Int) ≤ (k : Int) := (by omega); have hkl : k ≤ 121 := (by omega); have HK := Lib.hid hk; obtain ⟨x, hx⟩ : ∃ x, u.extract 0 k = x := ⟨_, rfl⟩; obtain ⟨y, hy⟩ : ∃ y, u.extract k u.size = y := ⟨_, rfl⟩; have hbx := Lib.hid (show bts x = (bts u).take k by rw [← hx, bts_extract, List.drop_zero]); have hby := Lib.hid (show bts y = (bts u).drop k by rw [← hy, bts_from]); have hxl : x.size ≤ 121 := (by rw [← bts_length, hbx.out, List.length_take, bts_length]; omega); have hyl : y.size ≤ 121 := (by rw [← bts_length, hby.out, List.length_drop, bts_length]; omega); clear hk
  clear hz1
  refine hKc.out _ _ ⟨below_step hS.1 hb, hS.2.keep hb⟩ (fun hS => ?_)
  clear hKc Kc
  refine takeH (i := 11) (d := some 21) (v := ?v35) rfl rfl (by kernel_rfl) (by kernel_rfl) (by kernel_rfl) (fun _ _ _ h => h) (Or.inl ⟨by rfl, ?h35⟩) hS ?_
  case h35 => intro W _; have hq : ¬ 9223372036854775807 < z.size + s.size := (by omega); go_simp; try with_reducible rfl
  simp only [Act.put, List.setIfInBounds_toArray, List.set_cons_zero, List.set_cons_succ]
  refine takeH (i := 12) (d := some 4) (v := ?v36) rfl rfl (by kernel_rfl) (by kernel_rfl) (by kernel_rfl) (fun _ _ _ h => h) (Or.inl ⟨by rfl, ?h36⟩) hS ?_
  case h36 => intro W _; go_simp; try with_reducible rfl
  simp only [Act.put, List.setIfInBounds_toArray, List.set_cons_zero, List.set_cons_succ]
  refine wpAnyH_done (by kernel_rfl) ?_ _
  clear b2 hB
  obtain ⟨hB, b2⟩ := hS
  go_wp2_with (first
    | (refine wl_loadC b2 rfl (by kernel_rfl) _ rfl (j := 0) rfl rfl ?_)
    | (refine wl_loadC b2 rfl (by kernel_rfl) _ rfl (j := 1) rfl rfl ?_)
    | (refine wl_loadC b2 rfl (by kernel_rfl) _ rfl (j := 2) rfl rfl ?_))
  go_quiet (fail)
  go_wp2_with (first
    | (refine wl_loadC (b2.drewN _) rfl (by kernel_rfl) _ rfl (j := 0) rfl rfl ?_)
    | (refine wl_loadC (b2.drewN _) rfl (by kernel_rfl) _ rfl (j := 1) rfl rfl ?_)
    | (refine wl_loadC (b2.drewN _) rfl (by kernel_rfl) _ rfl (j := 2) rfl rfl ?_))
  go_ret2
  exact ⟨ret_text (text_dotted HS.out HU.out _ (by rw [bts_46, hbx.out, hby.out, HK.out]; rfl)), below_drewN hB _⟩
theorem ptext_is (n : Bool) (s : ByteArray) (S : Int) (hs : s.size ≤ 1000000) (t : ByteArray) (k : Int) (hr : textR n s S = (t, k)) (w : World) : Calls Tryz.prog 11 #[.agg #[.bool n, .string s, .int .i64 S]] w fun e w' => e = .returned (.tuple #[.string t, .int .i64 k]) ∧ Below w.heap.size w w' := by
  unfold textR at hr
  cases h1 : okB n s S with
  | false =>
    rw [if_neg (by rw [h1]; decide)] at hr; cases hr
    exact ptext_no n s S hs h1 w
  | true =>
    rw [if_pos h1] at hr; cases hr
    have k1 := okB_ok h1
    cases n with
    | true =>
      obtain ⟨T, rfl⟩ : ∃ T : Nat, S = T := ⟨S.toNat, by have := k1.low; omega⟩
      have hT : T ≤ 60 := by have := k1.high; omega
      by_cases hT0 : T = 0
      · exact ptext_t0 s T k1.size k1.pos hT hT0 h1 w
      · exact ptext_tS s T k1.size k1.pos hT hT0 h1 w
    | false =>
      obtain ⟨T, rfl⟩ : ∃ T : Nat, S = T := ⟨S.toNat, by have := k1.low; omega⟩
      have hT : T ≤ 60 := by have := k1.high; omega
      by_cases hT0 : T = 0
      · exact ptext_f0 s T k1.size k1.pos hT hT0 h1 w
      · exact ptext_fS s T k1.size k1.pos hT hT0 h1 w
end Go.Proofs.YthmmjihldkjhhaaGreatDoor
