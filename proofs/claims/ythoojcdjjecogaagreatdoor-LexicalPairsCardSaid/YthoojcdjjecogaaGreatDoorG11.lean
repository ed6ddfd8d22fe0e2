/-
  Part 11 of the proof: what functions return, and plain facts (Pover). Conditions: each theorem names its own.
-/
import Derived.Test.YthoojcdjjecogaaGreatDoorG06
import Derived.Test.YthoojcdjjecogaaGreatDoorG04
import Derived.Deep.RegionWith
set_option maxRecDepth 1000000
set_option maxHeartbeats 16000000
namespace Go.Proofs.YthoojcdjjecogaaGreatDoor
open Go Go.RowKit
theorem step_loadN {ops : Array Oper} {o : Oper} {a : Act} {w : World} {K : Act -> World -> Prop} {Q : Exit -> Act -> World -> Prop} {E : Prop} {g : Nat} {l : List Nat} (hr : Row24 w g l) (hg : o.guard = none) (x : Operand) (ho : o.op = .load 117 x)
  (hx : a.eval x = .pointer (some ⟨g, 0, none⟩)) (h : K (a.put o.dst (.agg (numV l))) w) : if Region.wanted o (yielded ops a.tmps) = true then Oper.wp Tryz.prog o a w K Q else E := by
 have hw : Region.wanted o (yielded ops a.tmps) = true := by simp [Region.wanted, hg]
 rw [if_pos hw]
 exact wp_load_row _ x ho g hx _ (numV l) (0, 0) _ hr.row undNum rfl (by rw [infoNum, numV_size, hr.len]) h
theorem step_storeN {ops : Array Oper} {o : Oper} {a : Act} {w : World} {K : Act -> World -> Prop} {Q : Exit -> Act -> World -> Prop} {E : Prop} {g : Nat} {l m : List Nat} (hr : Row24 w g l) (hm : m.length = 24) (hg : o.guard = none) (x y : Operand) (ho : o.op = .store 117 x y)
  (hx : a.eval x = .pointer (some ⟨g, 0, none⟩)) (hy : a.eval y = .agg (numV m)) (h : K (a.put o.dst undef) (w.setRow g (numV m))) : if Region.wanted o (yielded ops a.tmps) = true then Oper.wp Tryz.prog o a w K Q else E := by
 have hw : Region.wanted o (yielded ops a.tmps) = true := by simp [Region.wanted, hg]
 rw [if_pos hw]
 exact wp_store_row _ x y ho g (numV m) hx hy _ (numV l) hr.row (by rw [infoNum, numV_size, hm]) (by rw [numV_size, numV_size, hr.len, hm]) (numV_one m) h
theorem results_two {fn : Func} {p q : Tmp} (hf : fn.results = #[.cell p 117, .cell q 117]) {tmps : Array Value} {W : World} {g h : Nat} {l m : List Nat} (h1 : Row24 W g l) (h2 : Row24 W h m)
  (hp : tmps.getD p undef = .pointer (some ⟨g, 0, none⟩)) (hq : tmps.getD q undef = .pointer (some ⟨h, 0, none⟩)) : (results fn tmps).run Tryz.prog W = .ok (.tuple #[.agg (numV l), .agg (numV m)]) W := by
 have hp' : tmps[p]?.getD undef = .pointer (some ⟨g, 0, none⟩) := by simpa using hp
 have hq' : tmps[q]?.getD undef = .pointer (some ⟨h, 0, none⟩) := by simpa using hq
 have e1 := run_loadVar_row (P := Tryz.prog) W g _ _ (numV l) (0, 0) _ h1.row undNum rfl (by rw [infoNum, numV_size, h1.len])
 have e2 := run_loadVar_row (P := Tryz.prog) W h _ _ (numV m) (0, 0) _ h2.row undNum rfl (by rw [infoNum, numV_size, h2.len])
 simp [results, hf, hp', hq', asAddr, e1, e2]

theorem pcmp_low (a b : List Nat) (ha : Num a) (hb : Num b) (h : Dc.valB a < Dc.valB b) (w : World) : Calls Tryz.prog 84 #[.agg (numV a), .agg (numV b)] w fun e w' => e = .returned (.int .i64 (-1)) /\ Below w.heap.size w w' :=
 (pcmp_any a b ha hb w).mono fun _ _ ⟨he, hw⟩ => ⟨by rw [he, cmp_lt h], hw⟩
theorem pcmp_not (a b : List Nat) (ha : Num a) (hb : Num b) (h : Dc.valB b <= Dc.valB a) (w : World) : Calls Tryz.prog 84 #[.agg (numV a), .agg (numV b)] w fun e w' => (∃ z : Int, e = .returned (.int .i64 z) /\ 0 <= z /\ z <= 1) /\ Below w.heap.size w w' :=
 (pcmp_any a b ha hb w).mono fun _ _ ⟨he, hw⟩ => ⟨⟨_, he, by unfold cmpI; rw [if_neg (by omega)]; split <;> omega, by unfold cmpI; rw [if_neg (by omega)]; split <;> omega⟩, hw⟩

theorem pover_any (s : ByteArray) (m : List Nat) (hs : s.size <= 216) (hd : (bts s).all Dc.dig = true) (hm : Num m) (hM : 0 < Dc.valB m) (hM2 : Dc.valB m * 10 <= top) (w : World) : Calls Tryz.prog 170 #[.string s, .agg (numV m)] w fun e w' => (∃ Q R : List Nat, e = .returned (.tuple #[.agg (numV Q), .agg (numV R)]) /\ Num Q /\ Num R /\ Dc.valB Q = Dc.val (bts s) / Dc.valB m /\ Dc.valB R = Dc.val (bts s) % Dc.valB m) /\ Below w.heap.size w w' := by
 have HD : Hid _ := Lib.hid hd
 have HN : Hid _ := Lib.hid hm
 have HM : Hid _ := Lib.hid hM
 have HM2 : Hid _ := Lib.hid hM2
 have R : Hid _ := Lib.hid (rows3 w m (List.replicate 24 0) hm.len rfl)
 obtain ⟨M, hMe⟩ : ∃ M, Dc.valB m = M := ⟨_, rfl⟩
 have HMe : Hid _ := Lib.hid hMe
 clear hd hm hM hM2 hMe
 go_enter Tryz.func170, Tryz.ntmps170
 go_wp2
 go_loopw [10] (fun i wr => ∃ (k : Nat) (Q X : List Nat), k <= s.size /\ i = .int .i64 (k : Int) /\ Hid (Num Q) /\ Hid (Num X) /\ Hid (Dc.valB Q = Dc.val ((bts s).take k) / M) /\ Hid (Dc.valB X = Dc.val ((bts s).take k) % M) /\ Row24 wr w.heap.size m /\ Row24 wr (w.heap.size + 1) Q /\ Row24 wr (w.heap.size + 1 + 1) X /\ Below w.heap.size w wr) (fun i _ => s.size - (intOf i).toNat)
 case atStart => exact ⟨0, _, _, Nat.zero_le _, rfl, Lib.hid Num.zeros, Lib.hid Num.zeros, Lib.hid (by rw [Dc.valB_zeros]; simp [Dc.val]), Lib.hid (by rw [Dc.valB_zeros]; simp [Dc.val]), R.out.1, R.out.2.1, R.out.2.2.1, R.out.2.2.2⟩
 case round =>
  obtain ⟨k, Q, X, hk, rfl, hQ, hX, hQv, hXv, hr1, hr2, hr3, hB⟩ := hrel
  by_cases hlt : k < s.size
  ·have k0 : (0 : Int) <= (k : Int) := by omega
   obtain ⟨c, hc⟩ : ∃ c, (s[k]'hlt).toNat = c := ⟨_, rfl⟩
   have hcd : 48 <= c /\ c <= 57 := Dc.dig_iff.1 (List.all_eq_true.1 HD.out c (by rw [<- hc, <- bts_get s k hlt]; exact List.getElem_mem _))
   obtain ⟨dg, hdg⟩ : ∃ dg, c = 48 + dg := ⟨c - 48, by omega⟩
   have hdi : (c : Int) - 48 = (dg : Int) := by omega
   have hdl : dg <= 9 := by omega
   have w8 : IntKind.u8.wrap (dg : Int) = (dg : Int) := by rw [IntKind.wrap_u8]; omega
   have w32 : IntKind.u32.wrap (dg : Int) = (dg : Int) := by rw [IntKind.wrap_u32]; omega
   obtain ⟨v, hv⟩ : ∃ v, Dc.val ((bts s).take k) = v := ⟨_, rfl⟩
   have hv' : Hid (Dc.val ((bts s).take (k + 1)) = v * 10 + dg) := Lib.hid (by rw [take_val hlt, hc, hv, hdg, Nat.add_sub_cancel_left])
   have hvt : Hid (v * 10 + dg < top) := Lib.hid (by
    rw [<- hv'.out]
    have h1 := Dc.val_lt (l := (bts s).take (k + 1)) (List.all_eq_true.2 fun x hx => List.all_eq_true.1 HD.out x (List.mem_of_mem_take hx))
    refine Nat.lt_of_lt_of_le h1 ?_
    rw [show top = 10 ^ 216 from by unfold top; decide]
    exact Nat.pow_le_pow_right (by decide) (by rw [List.length_take, bts_length]; omega))
   rw [hv] at hQv hXv
   have hxm : Hid (v % M < M) := Lib.hid (Nat.mod_lt _ (by rw [<- HMe.out]; exact HM.out))
   have hsm : Hid ((Dc.valB X * 10 + dg) % top = v % M * 10 + dg) := Lib.hid (by
    rw [hXv.out, Nat.mod_eq_of_lt]
    have h2 := HM2.out
    rw [HMe.out] at h2
    have h3 := hxm.out
    omega)
   have HC : Hid _ := Lib.hid hcd
   have HV : Hid _ := Lib.hid hv
   have HDG : Hid _ := Lib.hid hdg
   clear hcd hv hdg
   have g1 : Row24 wr.drew (w.heap.size + 1 + 1) X := hr3.drew 1
   have C : Hid _ := Lib.hid (psmall_any X hX.out 10 dg (by decide) (by omega))
   go_wp2
   refine wp_region_any (by kernel_rfl) ?_
   change wpAny _ _ _ _ _ _ _ (World.drew _)
   refine wpAny_take (i := 1) (v := .string s) rfl (by kernel_rfl) (by kernel_rfl) (by kernel_rfl) (fun _ _ _ h => h) (Or.inl ⟨by rfl, fun w => by go_simp⟩) ?_
   refine wpAny_take (i := 2) (v := .int .i64 (k : Int)) rfl (by kernel_rfl) (by kernel_rfl) (by kernel_rfl) (fun _ _ _ h => h) (Or.inl ⟨by rfl, fun w => by go_simp⟩) ?_
   refine wpAny_take (i := 3) (v := .int .u8 (c : Int)) rfl (by kernel_rfl) (by kernel_rfl) (by kernel_rfl) (fun _ _ _ h => h) (Or.inl ⟨by rfl, fun w => by go_simp⟩) ?_
   refine wpAny_take (i := 4) (v := .int .u8 (dg : Int)) rfl (by kernel_rfl) (by kernel_rfl) (by kernel_rfl) (fun _ _ _ h => h) (Or.inl ⟨by rfl, fun w => by go_simp⟩) ?_
   refine wpAny_take (i := 5) (v := .int .u32 (dg : Int)) rfl (by kernel_rfl) (by kernel_rfl) (by kernel_rfl) (fun _ _ _ h => h) (Or.inl ⟨by rfl, fun w => by go_simp⟩) ?_
   refine wpAny_ready (rs := [0]) (by kernel_rfl) (by simp) ?_
   refine AllReady.cons rfl (fun K hK => ?_) AllReady.nil
   refine step_loadN g1 rfl _ rfl rfl ?_
   refine hK _ _ ?_
   clear hK K
   refine wpAny_ready (rs := [6]) (by kernel_rfl) (by simp) ?_
   refine AllReady.cons rfl (fun K hK => ?_) AllReady.nil
   go_simp
   refine (C.out _).mono ?_
   rintro e w1 ⟨⟨U, rfl, hU⟩, hb⟩
   have g1' := g1.keep hb
   have hUl := hU.1.len
   have HU : Hid _ := Lib.hid hU
   clear hU
   refine hK _ _ ?_
   clear hK K
   refine wpAny_ready (rs := [7]) (by kernel_rfl) (by simp) ?_
   refine AllReady.cons rfl (fun K hK => ?_) AllReady.nil
   refine step_storeN g1' hUl rfl _ _ rfl rfl rfl ?_
   refine hK _ _ ?_
   clear hK K
   refine wpAny_done (by kernel_rfl) ?_ _
   obtain ⟨W, hW⟩ : ∃ W, w1.setRow (w.heap.size + 1 + 1) (numV U) = W := ⟨_, rfl⟩
   have bW : Below w.heap.size w W := by rw [<- hW]; exact below_setRow ((below_drewN hB 1).trans (hb.mono hB.size)) (by omega) _
   have k1 : Row24 W w.heap.size m := by rw [<- hW]; exact ⟨(setRow_other w1 _ _ _ (by omega)).trans ((hr1.drew 1).keep hb).row, hr1.len⟩
   have k2 : Row24 W (w.heap.size + 1) Q := by rw [<- hW]; exact ⟨(setRow_other w1 _ _ _ (by omega)).trans ((hr2.drew 1).keep hb).row, hr2.len⟩
   have k3 : Row24 W (w.heap.size + 1 + 1) U := by rw [<- hW]; exact g1'.set hUl
   have C2 : Hid _ := Lib.hid hW
   clear hW g1 g1' hr1 hr2 hr3 hB
   go_wp2
   obtain ⟨wo, rfl⟩ : ∃ wo : World, wo = W := ⟨_, rfl⟩
   go_loopw [7] (fun d wr => ∃ (j : Nat) (V : List Nat), j <= 9 /\ d = .int .u32 (j : Int) /\ Hid (Num V) /\ Hid (Dc.valB V + j * M = v % M * 10 + dg) /\ Row24 wr w.heap.size m /\ Row24 wr (w.heap.size + 1) Q /\ Row24 wr (w.heap.size + 1 + 1) V /\ Below w.heap.size w wr) (fun d _ => 9 - (intOf d).toNat)
   case atStart => rw [C2.out]; exact ⟨0, U, by omega, rfl, Lib.hid HU.out.1, Lib.hid (by rw [HU.out.2, hsm.out]; omega), k1, k2, k3, bW⟩
   case round =>
    clear k1 k2 k3 bW C
    obtain ⟨j, V, hj, rfl, hVN, hVv, r1, r2, r3, hB⟩ := hrel
    by_cases hx : Dc.valB V < M
    ·have CC : Hid _ := Lib.hid (pcmp_low V m hVN.out HN.out (by rw [HMe.out]; exact hx))
     have CS : Hid _ := Lib.hid (psmall_any Q hQ.out 10 j (by decide) (by omega))
     have HX : Hid _ := Lib.hid hx
     clear hx
     go_wp2_with (first
      | (refine wp_loadN r3 rfl _ rfl rfl ?_)
      | (refine wp_loadN r1 rfl _ rfl rfl ?_)
      | (go_at_call 84; refine (CC.out _).mono ?_; rintro e w2 ⟨rfl, hb2⟩; have q1 := r1.keep hb2; have q2 := r2.keep hb2; have q3 := r3.keep hb2; have B2 := hB.trans (hb2.mono hB.size))
      | (refine wp_loadN q2 rfl _ rfl rfl ?_)
      | (go_at_call 189; refine (CS.out _).mono ?_; rintro e w3 ⟨⟨Q2, rfl, hQ2⟩, hb3⟩; have p1 := q1.keep hb3; have p2 := q2.keep hb3; have p3 := q3.keep hb3; have B3 := B2.trans (hb3.mono B2.size); have hq2l := hQ2.1.len; have HQ2 : Hid _ := Lib.hid hQ2; clear hQ2)
      | (refine wp_storeN p2 hq2l rfl _ _ rfl rfl rfl ?_))
     go_roundw
     case rel =>
      have hds := div_step (v := v) (dg := dg) (M := M) HX.out hVv.out
      refine ⟨k + 1, Q2, V, by omega, by simp, Lib.hid HQ2.out.1, hVN, Lib.hid ?_, Lib.hid ?_, ?_, ?_, ?_, below_setRow B3 (by omega) _⟩
      ·rw [HQ2.out.2, hQv.out, hv'.out, hds.1, Nat.mod_eq_of_lt]
       have h1 := hds.1
       have h2 := Nat.div_le_self (v * 10 + dg) M
       have h3 := hvt.out
       omega
      ·rw [hv'.out, hds.2]
      ·exact ⟨(setRow_other _ _ _ _ (by omega)).trans p1.row, p1.len⟩
      ·exact p2.set hq2l
      ·exact ⟨(setRow_other _ _ _ _ (by omega)).trans p3.row, p3.len⟩
     case measure => simp [intOf]; omega
    ·have hge : M <= Dc.valB V := by omega
     have CC : Hid _ := Lib.hid (pcmp_not V m hVN.out HN.out (by rw [HMe.out]; exact hge))
     have CM : Hid _ := Lib.hid (pminus_any V m hVN.out HN.out (by rw [HMe.out]; exact hge))
     have hj9 : j < 9 := by
      have h5 := hVv.out
      have h6 := hxm.out
      rcases Nat.lt_or_ge j 9 with h9 | h9
      ·exact h9
      ·have h7 : 9 * M <= j * M := Nat.mul_le_mul_right _ h9
       omega
     have HX : Hid _ := Lib.hid hge
     clear hx hge
     go_wp2_with (first
      | (refine wp_loadN q3 rfl _ rfl rfl ?_)
      | (refine wp_loadN q1 rfl _ rfl rfl ?_)
      | (refine wp_loadN r3 rfl _ rfl rfl ?_)
      | (refine wp_loadN r1 rfl _ rfl rfl ?_)
      | (go_at_call 84; refine (CC.out _).mono ?_; rintro e w2 ⟨⟨z, rfl, z0, z1⟩, hb2⟩; have q1 := r1.keep hb2; have q2 := r2.keep hb2; have q3 := r3.keep hb2; have B2 := hB.trans (hb2.mono hB.size))
      | (go_at_call 190; refine (CM.out _).mono ?_; rintro e w3 ⟨⟨V2, rfl, hV2⟩, hb3⟩; have p1 := q1.keep hb3; have p2 := q2.keep hb3; have p3 := q3.keep hb3; have B3 := B2.trans (hb3.mono B2.size); have hv2l := hV2.1.len; have HV2 : Hid _ := Lib.hid hV2; clear hV2)
      | (refine wp_storeN p3 hv2l rfl _ _ rfl rfl rfl ?_))
     go_roundw
     case rel =>
      refine ⟨j + 1, V2, by omega, by simp, Lib.hid HV2.out.1, Lib.hid ?_, ?_, ?_, p3.set hv2l, below_setRow B3 (by omega) _⟩
      ·have h1 := HV2.out.2
       have h2 := hVv.out
       have h3 := HX.out
       rw [HMe.out] at h1
       rw [Nat.succ_mul]; omega
      ·exact ⟨(setRow_other _ _ _ _ (by omega)).trans p1.row, p1.len⟩
      ·exact ⟨(setRow_other _ _ _ _ (by omega)).trans p2.row, p2.len⟩
     case measure => simp [intOf]; omega
  ·have hke : (bts s).take k = bts s := List.take_of_length_le (by rw [bts_length]; omega)
   have hfin : Hid (Dc.valB Q = Dc.val (bts s) / Dc.valB m /\ Dc.valB X = Dc.val (bts s) % Dc.valB m) := Lib.hid (by rw [HMe.out, hQv.out, hXv.out, hke]; exact ⟨rfl, rfl⟩)
   have g2 : Row24 wr.drew (w.heap.size + 1) Q := hr2.drew 1
   have g3 : Row24 wr.drew (w.heap.size + 1 + 1) X := hr3.drew 1
   have hQl := hr2.len
   have hXl := hr3.len
   have B1 : Below w.heap.size w wr.drew := below_drewN hB 1
   have h2 : Row24 (wr.drew.setRow (w.heap.size + 1) (numV Q)) (w.heap.size + 1) Q := g2.set hQl
   have h3 : Row24 (wr.drew.setRow (w.heap.size + 1) (numV Q)) (w.heap.size + 1 + 1) X := ⟨(setRow_other _ _ _ _ (by omega)).trans g3.row, hXl⟩
   have e2 : Row24 ((wr.drew.setRow (w.heap.size + 1) (numV Q)).setRow (w.heap.size + 1 + 1) (numV X)) (w.heap.size + 1) Q := ⟨(setRow_other _ _ _ _ (by omega)).trans h2.row, hQl⟩
   have e3 : Row24 ((wr.drew.setRow (w.heap.size + 1) (numV Q)).setRow (w.heap.size + 1 + 1) (numV X)) (w.heap.size + 1 + 1) X := h3.set hXl
   have B2 : Below w.heap.size w ((wr.drew.setRow (w.heap.size + 1) (numV Q)).setRow (w.heap.size + 1 + 1) (numV X)) := below_setRow (below_setRow B1 (by omega) _) (by omega) _
   clear hke hQv hXv hr1 hr2 hr3 hB
   go_wp2
   refine wp_region_any (by kernel_rfl) ?_
   change wpAny _ _ _ _ _ _ _ (World.drew _)
   refine wpAny_ready (rs := [0, 1]) (by kernel_rfl) (by simp) ?_
   refine AllReady.cons rfl (fun K hK => ?_) (AllReady.cons rfl (fun K hK => ?_) AllReady.nil)
   ·refine step_loadN g2 rfl _ rfl rfl ?_
    refine hK _ _ ?_
    clear hK K
    refine wpAny_ready (rs := [1, 2]) (by kernel_rfl) (by simp) ?_
    refine AllReady.cons rfl (fun K hK => ?_) (AllReady.cons rfl (fun K hK => ?_) AllReady.nil)
    ·refine step_loadN g3 rfl _ rfl rfl ?_; refine hK _ _ ?_; clear hK K
     refine wpAny_ready (rs := [2]) (by kernel_rfl) (by simp) ?_; refine AllReady.cons rfl (fun K hK => ?_) AllReady.nil
     refine step_storeN g2 hQl rfl _ _ rfl rfl rfl ?_; refine hK _ _ ?_; clear hK K
     refine wpAny_ready (rs := [3]) (by kernel_rfl) (by simp) ?_; refine AllReady.cons rfl (fun K hK => ?_) AllReady.nil
     refine step_storeN h3 hXl rfl _ _ rfl rfl rfl ?_; refine hK _ _ ?_; clear hK K
     refine wpAny_done (by kernel_rfl) ?_ _
     go_wp2
     refine bodyPost_ret (v := .tuple #[.agg (numV Q), .agg (numV X)]) (results_two rfl e2 e3 rfl rfl) rfl ?_
     exact ⟨⟨Q, X, rfl, hQ.out, hX.out, hfin.out⟩, B2⟩
    ·refine step_storeN g2 hQl rfl _ _ rfl rfl rfl ?_; refine hK _ _ ?_; clear hK K
     refine wpAny_ready (rs := [1]) (by kernel_rfl) (by simp) ?_; refine AllReady.cons rfl (fun K hK => ?_) AllReady.nil
     refine step_loadN h3 rfl _ rfl rfl ?_; refine hK _ _ ?_; clear hK K
     refine wpAny_ready (rs := [3]) (by kernel_rfl) (by simp) ?_; refine AllReady.cons rfl (fun K hK => ?_) AllReady.nil
     refine step_storeN h3 hXl rfl _ _ rfl rfl rfl ?_; refine hK _ _ ?_; clear hK K
     refine wpAny_done (by kernel_rfl) ?_ _
     go_wp2
     refine bodyPost_ret (v := .tuple #[.agg (numV Q), .agg (numV X)]) (results_two rfl e2 e3 rfl rfl) rfl ?_
     exact ⟨⟨Q, X, rfl, hQ.out, hX.out, hfin.out⟩, B2⟩
   ·refine step_loadN g3 rfl _ rfl rfl ?_; refine hK _ _ ?_; clear hK K
    refine wpAny_ready (rs := [0]) (by kernel_rfl) (by simp) ?_; refine AllReady.cons rfl (fun K hK => ?_) AllReady.nil
    refine step_loadN g2 rfl _ rfl rfl ?_; refine hK _ _ ?_; clear hK K
    refine wpAny_ready (rs := [2]) (by kernel_rfl) (by simp) ?_; refine AllReady.cons rfl (fun K hK => ?_) AllReady.nil
    refine step_storeN g2 hQl rfl _ _ rfl rfl rfl ?_; refine hK _ _ ?_; clear hK K
    refine wpAny_ready (rs := [3]) (by kernel_rfl) (by simp) ?_; refine AllReady.cons rfl (fun K hK => ?_) AllReady.nil
    refine step_storeN h3 hXl rfl _ _ rfl rfl rfl ?_; refine hK _ _ ?_; clear hK K
    refine wpAny_done (by kernel_rfl) ?_ _
    go_wp2
    refine bodyPost_ret (v := .tuple #[.agg (numV Q), .agg (numV X)]) (results_two rfl e2 e3 rfl rfl) rfl ?_
    exact ⟨⟨Q, X, rfl, hQ.out, hX.out, hfin.out⟩, B2⟩
end Go.Proofs.YthoojcdjjecogaaGreatDoor
