/-
  Part 14 of the proof: what functions return, and plain facts (Padd Pofn Pcmpd Pdiv Ptext Pread). Conditions: each theorem names its own.
-/
import Derived.Test.YtckodhldimhbfaaGreatDoorG12
import Derived.Test.YtckodhldimhbfaaGreatDoorG13
import Derived.Test.YtckodhldimhbfaaGreatDoorG10
import Derived.Test.YtckodhldimhbfaaGreatDoorG09
set_option maxRecDepth 1000000
set_option maxHeartbeats 16000000
namespace Go.Proofs.YtckodhldimhbfaaGreatDoor
open Go Go.RowKit Go.Ex
set_option maxRecDepth 1000000

theorem pcheck_r (n : Bool) (s : ByteArray) (S : Int) (hs : s.size <= 1000000) (r : Int) (hr : ckI n s S = r) (w : World) : Calls Tryz.prog 30 #[.agg #[.bool n, .string s, .int .i64 S]] w fun e w' => e = .returned (.int .i64 r) /\ Below w.heap.size w w' := by
 rw [<- hr]; exact pcheck_any n s S (by omega) w
theorem run_padd : chk (runTr Tryz.prog nG (fun _ => none) gd moT (raC 30 115) 100 86 [deV 1, deV 4] h0) twT [] = true := by decide +kernel
theorem run_psub : chk (runTr Tryz.prog nG (fun _ => none) gd moT (rbC 30 115 116) 100 87 [deV 1, deV 4] h0) twT [] = true := by decide +kernel
section
variable (n : Bool) (s : ByteArray) (S : Int) (m : Bool) (t : ByteArray) (U : Int) (hs : s.size <= 1000000) (ht : t.size <= 1000000) (r : Res)
include hs ht
theorem padd_is (hr : twoR Dc.addD n s S m t U = r) (w : World) {M : Int} (hV : Vars M w) : Calls Tryz.prog 86 #[.agg #[.bool n, .string s, .int .i64 S], .agg #[.bool m, .string t, .int .i64 U]] w fun e w' => e = .returned (.tuple #[.agg #[.bool r.n, .string r.s, .int .i64 r.S], .int .i64 r.k]) /\ Below w.heap.size w w' := by
 obtain ⟨q, hq⟩ : ∃ q, resOf (Dc.addD (rawD n s S) (rawD m t U)) = q := ⟨_, rfl⟩
 refine tree_rv (env := twE n s S m t U q) run_padd ?_ rfl trivial rfl rfl (tw_at _ n s S m t U Dc.addD hq hr) hV
 refine ⟨⟨rfl, fk, fun _ L w _ => pcheck_r n s S hs _ rfl w⟩, ⟨rfl, fk, fun _ L w _ => pcheck_r m t U ht _ rfl w⟩, ⟨rfl, fk, fun hp L w hV => ?_⟩, trivial⟩
 obtain ⟨k1, k2, _⟩ := tw_of rfl rfl hp
 have h := psum_is n s S m t U k1 k2 w hV
 rw [hq] at h
 exact h
theorem psub_is (hr : twoR Dc.subD n s S m t U = r) (w : World) {M : Int} (hV : Vars M w) : Calls Tryz.prog 87 #[.agg #[.bool n, .string s, .int .i64 S], .agg #[.bool m, .string t, .int .i64 U]] w fun e w' => e = .returned (.tuple #[.agg #[.bool r.n, .string r.s, .int .i64 r.S], .int .i64 r.k]) /\ Below w.heap.size w w' := by
 obtain ⟨q, hq⟩ : ∃ q, resOf (Dc.subD (rawD n s S) (rawD m t U)) = q := ⟨_, rfl⟩
 refine tree_rv (env := twE n s S m t U q) run_psub ?_ rfl trivial rfl rfl (tw_at _ n s S m t U Dc.subD hq hr) hV
 refine ⟨⟨rfl, fk, fun _ L w _ => pcheck_r n s S hs _ rfl w⟩, ⟨rfl, fk, fun _ L w _ => pcheck_r m t U ht _ rfl w⟩, ⟨rfl, fk, fun _ L w _ => popp_any m t U w⟩, ⟨rfl, fk, fun hp L w hV => ?_⟩, trivial⟩
 obtain ⟨k1, k2, _, h2⟩ := tw_of rfl rfl hp
 have h := psum_is n s S (oppN m t) t U k1 (okB_ok (opp_okB k2)) w hV
 rw [<- opp_raw k2, show Dc.addD (rawD n s S) (Dc.opp (rawD m t U)) = Dc.subD (rawD n s S) (rawD m t U) from rfl, hq] at h
 exact h
end
end Go.Proofs.YtckodhldimhbfaaGreatDoor
namespace Go.Proofs.YtckodhldimhbfaaGreatDoor
open Go Go.RowKit

theorem fint_any (n : Int) (h0 : -9223372036854775808 <= n) (h1 : n <= 9223372036854775807) (w : World) (hP : Pow w) : Calls Tryz.prog 83 #[.int .i64 n, .int .i64 10] w fun e w' => (∃ t : ByteArray, e = .returned (.string t) /\ t.data.toList = Lib.itoa n) /\ Below w.heap.size w w' := by
 refine (Tryz.strconv_FormatInt_10 n h0 h1 w hP).mono ?_
 rintro e w' ⟨rfl, k, os, rfl⟩
 exact ⟨⟨_, rfl, rfl⟩, Lib.below_grow _ _ (Nat.le_refl _) _ _⟩
theorem tpre_any (s : ByteArray) (l : List UInt8) (h : Lib.trimPrefix s.data.toList [45] = l) (w : World) : Calls Tryz.prog 84 #[.string s, .string ⟨#[45]⟩] w fun e w' => (∃ t : ByteArray, e = .returned (.string t) /\ t.data.toList = l) /\ w = w' :=
 (Tryz.strings_TrimPrefix s ⟨#[45]⟩ w).mono fun _ _ ⟨he, hw⟩ => ⟨⟨_, he, h⟩, hw.symm⟩
theorem dec_head (u : Nat) : ∀ r, Lib.decDigits u ≠ 45 :: r := fun r h => by
 have h1 := decDigits_digs u
 rw [h] at h1
 have := Dc.digs_dig u
 rw [<- h1] at this
 simp [Dc.dig] at this
theorem tpre_same (s : ByteArray) (h : ∀ r, s.data.toList ≠ 45 :: r) (w : World) : Calls Tryz.prog 84 #[.string s, .string ⟨#[45]⟩] w fun e w' => e = .returned (.string s) /\ w = w' := by
 refine (Tryz.strings_TrimPrefix s ⟨#[45]⟩ w).mono ?_
 rintro e w' ⟨rfl, hw⟩
 refine ⟨?_, hw.symm⟩
 have hp : Lib.hasPrefix s.data.toList [45] = false := by
  unfold Lib.hasPrefix
  cases hl : s.data.toList with
  | nil => rfl
  | cons c r =>
   have hc : (45 == c) = false := beq_eq_false_iff_ne.2 (fun e => h r (by rw [hl, e]))
   simp [List.isPrefixOf, hc]
 show Ending.returned (.string ⟨(Lib.trimPrefix s.data.toList [45]).toArray⟩) = _
 unfold Lib.trimPrefix
 rw [hp]; rfl
theorem cell3 {w : World} {g : Nat} {cs : Array Value} {t : TypeId} (h : w.heap[g]? = some (.cells cs t)) {j : Nat} {v : Value} (hv : cs[j]? = some v) : w.cell? ⟨g, j, none⟩ = some v := by simp [World.cell?, h, hv]
theorem open3 {w : World} {g : Nat} {cs : Array Value} {t : TypeId} (h : w.heap[g]? = some (.cells cs t)) (j : Nat) : w.frozen? ⟨g, j, none⟩ = false := by simp [World.frozen?, h]
theorem blk_keep {w w1 : World} {o : Obj} (hb : Below (w.alloc o).heap.size (w.alloc o) w1) : w1.heap[w.heap.size]? = some o := (hb.block _ (by simp)).trans (heap_alloc_last w o)
theorem pOf_pos (u : Nat) (h1 : (u : Int) <= 9223372036854775807) (w : World) (hP : Pow w) : Calls Tryz.prog 32 #[.int .i64 (u : Int)] w fun e w' => e = .returned (.agg #[.bool false, .string (str (Dc.digs u)), .int .i64 0]) /\ Below w.heap.size w w' := by
 have C : Hid (∀ w, Pow w -> _) := Lib.hid (fint_any (u : Int) (by omega) h1)
 have HP : Hid _ := Lib.hid hP
 clear hP
 go_enter Tryz.func32, Tryz.ntmps32
 go_wp2_with (first
  | (go_at_call 83; refine (C.out _ (HP.out.keep ((Below.refl _ w).alloc (Nat.le_refl _) _))).mono ?_; rintro e w1 ⟨⟨t, rfl, ht⟩, hb⟩; have HT : Hid _ := Lib.hid ht; have HB : Hid _ := Lib.hid hb; have k1 := blk_keep hb; have e0 := cell3 k1 (j := 0) rfl; have e1 := cell3 k1 (j := 1) rfl; have e2 := cell3 k1 (j := 2) rfl; have f0 := open3 k1 0; have f1 := open3 k1 1; have f2 := open3 k1 2; clear k1 ht hb; have HQ : Hid (bts t = Dc.digs u) := Lib.hid (by show t.data.toList.map UInt8.toNat = _; rw [HT.out, Lib.itoa_nonneg, decDigits_digs]))
  | (go_at_call 84; refine (tpre_same t (by rw [HT.out, Lib.itoa_nonneg]; exact dec_head u) _).mono ?_; rintro e w2 ⟨rfl, rfl⟩))
 refine bodyPost_ret (v := .agg #[.bool false, .string t, .int .i64 0]) (by simp [results, Tryz.results32, go_sem, e0, e1, e2]) rfl ⟨by rw [<- HQ.out, str_bts], ?_⟩
 have B0 : Below w.heap.size w (w.alloc (.cells #[.bool false, .string ⟨#[]⟩, .int .i64 0] 23)) := (Below.refl _ w).alloc (Nat.le_refl _) _
 exact (((B0.trans (HB.out.mono B0.size)).setCell (p := ⟨w.heap.size, 0, none⟩) (Nat.le_refl _) _).setCell (p := ⟨w.heap.size, 1, none⟩) (Nat.le_refl _) _).setCell (p := ⟨w.heap.size, 2, none⟩) (Nat.le_refl _) _
theorem tpre_cut (s : ByteArray) (l : List UInt8) (h : s.data.toList = 45 :: l) (w : World) : Calls Tryz.prog 84 #[.string s, .string ⟨#[45]⟩] w fun e w' => (∃ t : ByteArray, e = .returned (.string t) /\ t.data.toList = l) /\ w = w' := by
 refine tpre_any s l ?_ w
 unfold Lib.trimPrefix Lib.hasPrefix
 rw [h]
 simp [List.isPrefixOf]
theorem pOf_neg (u : Nat) (hu : 1 <= u) (h1 : (u : Int) <= 9223372036854775808) (w : World) (hP : Pow w) : Calls Tryz.prog 32 #[.int .i64 (-(u : Int))] w fun e w' => e = .returned (.agg #[.bool true, .string (str (Dc.digs u)), .int .i64 0]) /\ Below w.heap.size w w' := by
 have C : Hid (∀ w, Pow w -> _) := Lib.hid (fint_any (-(u : Int)) (by omega) (by omega))
 have HP : Hid _ := Lib.hid hP
 clear hP
 go_enter Tryz.func32, Tryz.ntmps32
 go_wp2_with (first
  | (go_at_call 83; refine (C.out _ (HP.out.keep ((Below.refl _ w).alloc (Nat.le_refl _) _))).mono ?_; rintro e w1 ⟨⟨t, rfl, ht⟩, hb⟩; have HT : Hid _ := Lib.hid ht; have HB : Hid _ := Lib.hid hb; have k1 := blk_keep hb; have e0 := cell3 k1 (j := 0) rfl; have e1 := cell3 k1 (j := 1) rfl; have e2 := cell3 k1 (j := 2) rfl; have f0 := open3 k1 0; have f1 := open3 k1 1; have f2 := open3 k1 2; clear k1 ht hb; have hTl : Hid (t.data.toList = 45 :: Lib.decDigits u) := Lib.hid (by rw [HT.out, Lib.itoa_neg u hu]))
  | (go_at_call 84; refine (tpre_cut t _ hTl.out _).mono ?_; rintro e w2 ⟨⟨t2, rfl, ht2⟩, rfl⟩; have HQ : Hid (bts t2 = Dc.digs u) := Lib.hid (by show t2.data.toList.map UInt8.toNat = _; rw [ht2, decDigits_digs]); have qd : (t2.toList == t.toList) = false := (by rw [toList_beq]; exact decide_eq_false (fun h => by have h2 := congrArg List.length h; have h3 := hTl.out; simp [bts, ht2, h3] at h2)); clear ht2))
 refine bodyPost_ret (v := .agg #[.bool true, .string t2, .int .i64 0]) (by simp [results, Tryz.results32, go_sem, e0, e1, e2]) rfl ⟨by rw [<- HQ.out, str_bts], ?_⟩
 have B0 : Below w.heap.size w (w.alloc (.cells #[.bool false, .string ⟨#[]⟩, .int .i64 0] 23)) := (Below.refl _ w).alloc (Nat.le_refl _) _
 exact (((B0.trans (HB.out.mono B0.size)).setCell (p := ⟨w.heap.size, 0, none⟩) (Nat.le_refl _) _).setCell (p := ⟨w.heap.size, 1, none⟩) (Nat.le_refl _) _).setCell (p := ⟨w.heap.size, 2, none⟩) (Nat.le_refl _) _
theorem pOf_any (n : Int) (h0 : -9223372036854775808 <= n) (h1 : n <= 9223372036854775807) (w : World) (hP : Pow w) : Calls Tryz.prog 32 #[.int .i64 n] w fun e w' => e = .returned (.agg #[.bool (decide (n < 0)), .string (str (Dc.digs n.natAbs)), .int .i64 0]) /\ Below w.heap.size w w' := by
 rcases (by omega : n < 0 \/ 0 <= n) with hn | hn
 ·obtain ⟨u, rfl⟩ : ∃ u : Nat, n = -(u : Int) := ⟨n.natAbs, by omega⟩
  rw [decide_eq_true hn, Int.natAbs_neg, Int.natAbs_natCast]
  exact pOf_neg u (by omega) (by omega) w hP
 ·obtain ⟨u, rfl⟩ : ∃ u : Nat, n = u := ⟨n.toNat, by omega⟩
  rw [decide_eq_false (by omega), Int.natAbs_natCast]
  exact pOf_pos u h1 w hP
open Go.Ex
set_option maxRecDepth 1000000

theorem some_if (p : Prop) (v k : Nat) (h : p -> v < 10 ^ k) : ∃ x, x < 10 ^ k /\ (p -> v = x) := by
 by_cases hp : p
 ·exact ⟨v, h hp, fun _ => rfl⟩
 ·exact ⟨0, Dc.pow10_pos k, fun q => absurd q hp⟩
theorem max_low {S U : Int} (h1 : 0 <= S /\ S <= 60) (h2 : 0 <= U /\ U <= 60) : (if S < U then U else S) = ((max (lowN S) (lowN U) : Nat) : Int) := by
 rw [<- mx_nat, lowN_eq h1.1 h1.2, lowN_eq h2.1 h2.2]
theorem pscaled_v {n : Bool} {s : ByteArray} {S : Int} (k : OkD n s S) {K A : Nat} (hS : lowN S <= K) (hK : K <= 120) (hA : Dc.val (bts s) * 10 ^ (K - lowN S) = A) {l : List Nat} (hl : NumIs l A) (w : World) : Calls Tryz.prog 81 #[.agg #[.bool n, .string s, .int .i64 S], .int .i64 (K : Int)] w fun e w' => e = .returned (.agg (numV l)) /\ Below w.heap.size w w' := by
 have h := pscaled_any n s (lowN S) K k.size k.dig.all hS hK w
 rw [lowN_eq k.low k.high, hA] at h
 exact num_call hl h
def cmT2 : Tree := .node (.eq (.at 7) (.int 0)) (.node (.eq (.at 8) (.int 0)) (.node (.at 1) (.node (.beq (.tt true) (.at 4)) (.leaf (.tup [.xi .i64 (.mul .i64 (.int (-1)) (.at 9)), it 0])) (.leaf (.tup [it (-1), it 0]))) (.node (.beq (.tt false) (.at 4)) (.leaf (.tup [.xi .i64 (.mul .i64 (.int 1) (.at 9)), it 0])) (.leaf (.tup [it 1, it 0])))) (.leaf (.tup [it 0, it 2]))) (.leaf (.tup [it 0, it 2]))
def pmC : List CallX := [⟨30, [deV 1], [], xi 7⟩, ⟨30, [deV 4], [], xi 8⟩, ⟨81, [deV 1, .xi .i64 mxX], twP, nuV 10⟩, ⟨81, [deV 4, .xi .i64 mxX], twP, nuV 34⟩, ⟨82, [nuV 10, nuV 34], [], xi 9⟩]
theorem run_pcmp : chk (runTr Tryz.prog nG (fun _ => none) (fun _ => true) deT pmC 100 31 [deV 1, deV 4] hN) cmT2 [] = true := by decide +kernel
theorem pcmp_is (n : Bool) (s : ByteArray) (S : Int) (m : Bool) (t : ByteArray) (U : Int) (hs : s.size <= 1000000) (ht : t.size <= 1000000) (z k : Int) (hr : cmpR n s S m t U = (z, k)) (w : World) : Calls Tryz.prog 31 #[.agg #[.bool n, .string s, .int .i64 S], .agg #[.bool m, .string t, .int .i64 U]] w fun e w' => e = .returned (.tuple #[.int .i64 z, .int .i64 k]) /\ Below w.heap.size w w' := by
 have l1 := lowN_le S; have l2 := lowN_le U
 obtain ⟨K, hK⟩ : ∃ K, max (lowN S) (lowN U) = K := ⟨_, rfl⟩
 obtain ⟨A, lA, hA⟩ := some_if (OkD n s S) (Dc.val (bts s) * 10 ^ (K - lowN S)) 120 fun h => scaled_low h.size h.dig.all (by omega)
 obtain ⟨B, lB, hB⟩ := some_if (OkD m t U) (Dc.val (bts t) * 10 ^ (K - lowN U)) 120 fun h => scaled_low h.size h.dig.all (by omega)
 obtain ⟨a, ha⟩ := num_some (lt_top lA (by decide))
 obtain ⟨b, hb⟩ := num_some (lt_top lB (by decide))
 obtain ⟨c, hc⟩ : ∃ c, cmpI A B = c := ⟨_, rfl⟩
 have n1 := nu_den ha.1.len (num_at (x := .int .i64 0) (pre := [.bool n, .string s, .int .i64 S, .bool m, .string t, .int .i64 U, .int .i64 (ckI n s S), .int .i64 (ckI m t U), .int .i64 c]) (post := numC b) (b := 10) ha.1.len rfl)
 have n2 := nu_den hb.1.len (num_at (x := .int .i64 0) (pre := [.bool n, .string s, .int .i64 S, .bool m, .string t, .int .i64 U, .int .i64 (ckI n s S), .int .i64 (ckI m t U), .int .i64 c] ++ numC a) (post := []) (b := 34) hb.1.len (by simp [numC, ha.1.len]))
 rw [List.append_assoc, List.append_nil] at n2
 refine tree_nv (env := .append [.bool n, .string s, .int .i64 S, .bool m, .string t, .int .i64 U, .int .i64 (ckI n s S), .int .i64 (ckI m t U), .int .i64 c] (numC a ++ numC b)) run_pcmp ?_ (show (List.all (numC a ++ numC b) _) = true by rw [List.all_append, numC_one, numC_one]; rfl) trivial rfl rfl ?_
 ·refine ⟨⟨rfl, fk, fun _ L w _ => pcheck_r n s S hs _ rfl w⟩, ⟨rfl, fk, fun _ L w _ => pcheck_r m t U ht _ rfl w⟩, ⟨rfl, fk, fun hp L w _ => ?_⟩, ⟨rfl, fk, fun hp L w _ => ?_⟩, ⟨rfl, fk, fun _ L w _ => ?_⟩, trivial⟩
  ·obtain ⟨k1, k2, _⟩ := tw_of rfl rfl hp
   exact callR (n1 L) (call2 rfl (congrArg (Value.int .i64) (max_low ⟨k1.low, k1.high⟩ ⟨k2.low, k2.high⟩)) (hK ▸ pscaled_v k1 (by omega) (by omega) (hA k1) ha w))
  ·obtain ⟨k1, k2, _⟩ := tw_of rfl rfl hp
   exact callR (n2 L) (call2 rfl (congrArg (Value.int .i64) (max_low ⟨k1.low, k1.high⟩ ⟨k2.low, k2.high⟩)) (hK ▸ pscaled_v k2 (by omega) (by omega) (hB k2) hb w))
  ·have h := pcmp_any a b ha.1 hb.1 w
   rw [ha.2, hb.2, hc] at h
   exact call2 (n1 L) (n2 L) h
 ·show (bif decide (ckI n s S = 0) then bif decide (ckI m t U = 0) then bif n then bif true == m then V.tup [.xi .i64 (.mul .i64 (.int (-1)) (.at 9)), it 0] else .tup [it (-1), it 0] else bif false == m then .tup [.xi .i64 (.mul .i64 (.int 1) (.at 9)), it 0] else .tup [it 1, it 0] else .tup [it 0, it 2] else .tup [it 0, it 2]).den L0 _ = _
  rw [ck_zero, ck_zero]
  unfold cmpR at hr
  cases h1 : okB n s S
  ·rw [if_neg (by rw [h1]; simp)] at hr; cases hr; rfl
  cases h2 : okB m t U
  ·rw [if_neg (by rw [h2]; simp)] at hr; cases hr; rfl
  rw [if_pos ⟨h1, h2⟩] at hr; cases hr
  have k1 := okB_ok h1; have k2 := okB_ok h2
  have e1 : S.toNat = lowN S := by have := lowN_eq k1.low k1.high; omega
  have e2 : U.toNat = lowN U := by have := lowN_eq k2.low k2.high; omega
  have g1 : Dc.val (bts s) * 10 ^ (K - S.toNat) = A := by rw [e1]; exact hA k1
  have g2 : Dc.val (bts t) * 10 ^ (K - U.toNat) = B := by rw [e2]; exact hB k2
  have g3 : max S.toNat U.toNat = K := by rw [e1, e2]; exact hK
  have bd : -1 <= c /\ c <= 1 := by rw [<- hc]; unfold cmpI; repeat' split; all_goals omega
  cases n <;> cases m
  ·show Value.tuple #[.int .i64 (IntKind.i64.wrap (1 * c)), .int .i64 0] = _
   rw [show Dc.cmpD (rawD false s S) (rawD false t U) = c from (Dc.cmpD_pos _ _ _ _ g3 g1 g2).trans hc, IntKind.wrap_i64, show (1 * c + 9223372036854775808) % 18446744073709551616 - 9223372036854775808 = c by omega]
  ·show Value.tuple #[.int .i64 1, .int .i64 0] = _
   rw [Dc.cmpD_pn k1.can k2.can rfl rfl]
  ·show Value.tuple #[.int .i64 (-1), .int .i64 0] = _
   rw [Dc.cmpD_np k1.can k2.can rfl rfl]
  ·show Value.tuple #[.int .i64 (IntKind.i64.wrap (-1 * c)), .int .i64 0] = _
   rw [show Dc.cmpD (rawD true s S) (rawD true t U) = -c from (Dc.cmpD_neg _ _ _ _ g3 g1 g2).trans (congrArg (- ·) hc), IntKind.wrap_i64, show (-1 * c + 9223372036854775808) % 18446744073709551616 - 9223372036854775808 = -c by omega]
set_option maxRecDepth 1000000

theorem pair_eq {a b c d : Value} (h : a = c) (h' : b = d) : Value.tuple #[a, b] = .tuple #[c, d] := by rw [h, h']
theorem repeat_v (z : Int) (c : Nat) (hz : z = c) (hc : c <= 1000) (w : World) : Calls Tryz.prog 105 #[.string ⟨#[48]⟩, .int .i64 z] w fun e w' => e = .returned (.string (zs c)) /\ Below w.heap.size w w' := by
 subst hz
 refine (repeat_zeros c hc w).mono ?_
 rintro e w' ⟨⟨r, rfl, hr⟩, hb⟩
 exact ⟨by rw [<- str_bts r, hr]; rfl, hb⟩
def pvC : List CallX := [⟨30, [deV 1], [], xi 7⟩, ⟨30, [deV 4], [], xi 8⟩, ⟨105, [.str [48], .xi .i64 (.add .i64 (.sub .i64 mxX (.at 3)) (.at 10))], dvP, xs 9⟩, ⟨81, [deV 4, .xi .i64 mxX], dvP, nuV 24⟩, ⟨117, [.xs (.cat (.at 2) (.at 9)), nuV 24], dvP, .tup [nuV 48, nuV 72]⟩,
 ⟨118, [nuV 48], [], xs 11⟩, ⟨102, [.bool false, xs 11, xi 10], dvP, rsV 16⟩, ⟨102, [.bool true, xs 11, xi 10], dvP, rsV 20⟩]
theorem run_pdiv : chk (runTr Tryz.prog nG (fun _ => none) gd moT pvC 100 88 [deV 1, deV 4, xi 10] h0) dvT [(.fits (.at 2) (.at 9), true)] = true := by decide +kernel
theorem pdiv_is (n : Bool) (s : ByteArray) (S : Int) (m : Bool) (t : ByteArray) (U : Int) (K : Int) (hs : s.size <= 1000000) (ht : t.size <= 1000000) (r : Res) (hr : divR n s S m t U K = r) (w : World) {M : Int} (hV : Vars M w) : Calls Tryz.prog 88 #[.agg #[.bool n, .string s, .int .i64 S], .agg #[.bool m, .string t, .int .i64 U], .int .i64 K] w fun e w' => e = .returned (.tuple #[.agg #[.bool r.n, .string r.s, .int .i64 r.S], .int .i64 r.k]) /\ Below w.heap.size w w' := by
 have l1 := lowN_le S; have l2 := lowN_le U; have l3 := lowN_le K
 obtain ⟨a, ha⟩ : ∃ a, max (lowN S) (lowN U) - lowN S = a := ⟨_, rfl⟩
 obtain ⟨b, hb⟩ : ∃ b, max (lowN S) (lowN U) - lowN U = b := ⟨_, rfl⟩
 obtain ⟨B, lB, hB⟩ := some_if (OkD m t U) (Dc.val (bts t) * 10 ^ b) 120 fun h => scaled_low h.size h.dig.all (by omega)
 obtain ⟨q, lq, hq⟩ := some_if (OkD n s S) (quV s t a b (lowN K)) 180 fun h => quV_low h (by omega) l3
 obtain ⟨o, lo, ho⟩ := some_if (0 < B) (Dc.val (bts s) * 10 ^ (a + lowN K) % B) 120 fun h => Nat.lt_trans (Nat.mod_lt _ h) lB
 obtain ⟨p, hp'⟩ : ∃ p, str (Dc.digs q) = p := ⟨_, rfl⟩
 obtain ⟨r1, g1⟩ : ∃ r, resOf (Dc.can false q (lowN K)) = r := ⟨_, rfl⟩
 obtain ⟨r2, g2⟩ : ∃ r, resOf (Dc.can true q (lowN K)) = r := ⟨_, rfl⟩
 obtain ⟨lb, hlb⟩ := num_some (lt_top lB (by decide))
 obtain ⟨lq', hlq⟩ := num_some (lt_top lq (by decide))
 obtain ⟨lo', hlo⟩ := num_some (lt_top lo (by decide))
 have eN : ∀ {S : Int}, 0 <= S -> S <= 60 -> S.toNat = lowN S := fun h0 h1 => by have := lowN_eq h0 h1; omega
 have back : 0 <= K -> K <= 60 -> okB n s S = true -> okB m t U = true -> Dc.quo (rawD n s S) (rawD m t U) K.toNat = q /\ K.toNat = lowN K := fun c d e f => by
  have k1 := okB_ok e; have k2 := okB_ok f
  rw [quo_is, eN c d, eN k1.low k1.high, eN k2.low k2.high, ha, hb]
  exact ⟨hq k1, rfl⟩
 obtain ⟨pre, hpre⟩ : ∃ l : List Value, l = .append [.bool n, .string s, .int .i64 S, .bool m, .string t, .int .i64 U, .int .i64 (ckI n s S), .int .i64 (ckI m t U), .string (zs (a + lowN K)), .int .i64 K, .string p, .bool true, .bool true, .bool true, .bool true] (resC r1 (resL r2)) := ⟨_, rfl⟩
 have hpl : pre.length = 23 := by rw [hpre]; rfl
 have n1 := nu_den hlb.1.len (num_at (x := .int .i64 M) (pre := pre) (post := numC lq' ++ numC lo') (b := 24) hlb.1.len (by rw [hpl]))
 have n2 := nu_den hlq.1.len (num_at (x := .int .i64 M) (pre := pre ++ numC lb) (post := numC lo') (b := 48) hlq.1.len (by simp [hpl, numC, hlb.1.len]))
 have n3 := nu_den hlo.1.len (num_at (x := .int .i64 M) (pre := pre ++ numC lb ++ numC lq') (post := []) (b := 72) hlo.1.len (by simp [hpl, numC, hlb.1.len, hlq.1.len]))
 simp only [List.append_assoc, List.append_nil] at n1 n2 n3
 obtain ⟨post, hpost⟩ : ∃ l, numC lb ++ (numC lq' ++ numC lo') = l := ⟨_, rfl⟩
 have hone : post.all Value.oneCell' = true := by rw [<- hpost]; simp only [List.all_append, numC_one, Bool.and_self]
 rw [hpost] at n1 n2 n3
 subst hpre
 refine tree_rv (env := .append [.bool n, .string s, .int .i64 S, .bool m, .string t, .int .i64 U, .int .i64 (ckI n s S), .int .i64 (ckI m t U), .string (zs (a + lowN K)), .int .i64 K, .string p, .bool true, .bool true, .bool true, .bool true] (resC r1 (List.append (resL r2) post))) run_pdiv ?_ hone ⟨decide_eq_true ?_, trivial⟩ rfl rfl
  (dv_at (n := n) (m := m) (s := s) (t := t) (S := S) (U := U) (K := K) (r1 := r1) (r2 := r2) ⟨rfl, rfl, rfl, rfl, rfl, rfl⟩ ⟨rfl, rfl, rfl, rfl⟩ ⟨rfl, rfl, rfl, rfl⟩ (fun a b c d => by rw [(back a b c d).1, (back a b c d).2]; exact g1) (fun a b c d => by rw [(back a b c d).1, (back a b c d).2]; exact g2) hr) hV
 ·refine ⟨⟨rfl, fk, fun _ L w _ => pcheck_r n s S hs _ rfl w⟩, ⟨rfl, fk, fun _ L w _ => pcheck_r m t U ht _ rfl w⟩, ⟨rfl, fk, fun hp L w hV => ?_⟩, ⟨rfl, fk, fun hp L w hV => ?_⟩, ⟨rfl, fk, fun hp L w hV => ?_⟩, ⟨rfl, fk, fun hp L w hV => ?_⟩, ⟨rfl, fk, fun hp L w hV => ?_⟩, ⟨rfl, fk, fun hp L w hV => ?_⟩, trivial⟩
  ·obtain ⟨k1, k2, hv, c1, c2⟩ := dv_of (n := n) (m := m) (s := s) (t := t) (S := S) (U := U) (K := K) rfl rfl hp
   refine repeat_v _ _ ?_ (by omega) w
   show IntKind.i64.wrap (IntKind.i64.wrap ((if S < U then U else S) - S) + K) = _
   rw [max_low ⟨k1.low, k1.high⟩ ⟨k2.low, k2.high⟩, IntKind.wrap_i64, IntKind.wrap_i64]
   have q1 := lowN_eq k1.low k1.high; have q2 := lowN_eq c1 c2
   omega
  ·obtain ⟨k1, k2, hv, c1, c2⟩ := dv_of (n := n) (m := m) (s := s) (t := t) (S := S) (U := U) (K := K) rfl rfl hp
   exact callR (n1 L) (call2 rfl (congrArg (Value.int .i64) (max_low (S := S) (U := U) ⟨k1.low, k1.high⟩ ⟨k2.low, k2.high⟩)) (pscaled_v k2 (K := max (lowN S) (lowN U)) (by omega) (by omega) (by rw [hb]; exact hB k2) hlb w))
  ·obtain ⟨k1, k2, hv, c1, c2⟩ := dv_of (n := n) (m := m) (s := s) (t := t) (S := S) (U := U) (K := K) rfl rfl hp
   have hB0 : 0 < B := by rw [<- hB k2]; exact Nat.mul_pos hv (Dc.pow10_pos _)
   have a1 := k1.size
   have h := pover_any (zf s (a + lowN K)) lb (by rw [zf_size]; omega) (zf_all k1.dig.all _) hlb.1 (by rw [hlb.2]; exact hB0) (by
    rw [hlb.2, top_pow]
    have h3 : B * 10 <= 10 ^ 120 * 10 := Nat.mul_le_mul_right _ (Nat.le_of_lt lB)
    exact Nat.le_trans h3 (by rw [<- Nat.pow_succ]; exact Nat.pow_le_pow_right (by decide) (by decide))) w
   rw [hlb.2, zf_val, ho hB0, show Dc.val (bts s) * 10 ^ (a + lowN K) / B = q by rw [<- hq k1, <- hB k2]; rfl] at h
   refine callR (pair_eq (n2 L) (n3 L)) (call2 rfl (n1 L) (h.mono ?_))
   rintro e w' ⟨⟨Q, R, rfl, hQ, hR, vQ, vR⟩, hb⟩
   refine ⟨?_, hb⟩
   rw [numL_of hQ, numL_of hR, vQ, vR, numL_of hlq.1, numL_of hlo.1, hlq.2, hlo.2]
  ·exact call1 (n2 L) (pdigits_v hlq hp' w hV.pow)
  ·obtain ⟨k1, k2, hv, c1, c2⟩ := dv_of (n := n) (m := m) (s := s) (t := t) (S := S) (U := U) (K := K) rfl rfl hp
   have h := pof_v false q (lowN K) (Nat.lt_trans lq (by decide +kernel)) (by omega) hp' g1 w
   rw [lowN_eq c1 c2] at h
   exact h
  ·obtain ⟨k1, k2, hv, c1, c2⟩ := dv_of (n := n) (m := m) (s := s) (t := t) (S := S) (U := U) (K := K) rfl rfl hp
   have h := pof_v true q (lowN K) (Nat.lt_trans lq (by decide +kernel)) (by omega) hp' g2 w
   rw [lowN_eq c1 c2] at h
   exact h
 ·show s.size + (zs _).size <= _
  rw [zs_size]; omega
set_option maxRecDepth 1000000

def pxC : List CallX := [⟨30, [deV 1], [], xi 4⟩, ⟨105, [.str [48], .xi .i64 (.mx (.int 0) (.sub .i64 (.add .i64 (.at 3) (.int 1)) (.len (.at 2))))], [(.eq (.at 4) (.int 0), true)], xs 5⟩]
theorem run_ptext0 : chk (runTr Tryz.prog nG (fun _ => none) (fun _ => true) deT pxC 100 65 [deV 1] hN) (.leaf (.tup [.str [], it 2])) [(.eq (.at 4) (.int 0), false)] = true := by decide +kernel
theorem run_ptext1 : chk (runTr Tryz.prog nG (fun _ => none) (fun _ => true) deT pxC 100 65 [deV 1] hN) (txT ceX) ((.eq (.at 4) (.int 0), true) :: (.fits (.at 5) (.at 2), true) :: txF ceX) = true := by decide +kernel
theorem ptext_is (n : Bool) (s : ByteArray) (S : Int) (hs : s.size <= 1000000) (t : ByteArray) (k : Int) (hr : textR n s S = (t, k)) (w : World) : Calls Tryz.prog 65 #[.agg #[.bool n, .string s, .int .i64 S]] w fun e w' => e = .returned (.tuple #[.string t, .int .i64 k]) /\ Below w.heap.size w w' := by
 have hc : AllX Tryz.prog (envE (.int .i64 0 :: [.bool n, .string s, .int .i64 S, .int .i64 (ckI n s S), .string (zs (S.toNat + 1 - s.size))])) (fun _ => True) pxC := by
  refine ⟨⟨rfl, fk, fun _ L w _ => pcheck_r n s S hs _ rfl w⟩, ⟨rfl, fk, fun hp L w _ => ?_⟩, trivial⟩
  have h1 : decide (ckI n s S = 0) = true := hp.1
  rw [ck_zero] at h1
  have k1 := okB_ok h1
  have := k1.low; have := k1.high; have := k1.size
  refine repeat_v _ _ ?_ (by omega) w
  show (if (0 : Int) < IntKind.i64.wrap (IntKind.i64.wrap (S + 1) - (s.size : Int)) then IntKind.i64.wrap (IntKind.i64.wrap (S + 1) - (s.size : Int)) else 0) = _
  rw [IntKind.wrap_i64, IntKind.wrap_i64]
  split <;> omega
 unfold textR at hr
 cases h1 : okB n s S with
 | false =>
  rw [if_neg (by rw [h1]; decide)] at hr; cases hr
  exact tree_nv run_ptext0 hc rfl ⟨by show decide (ckI n s S = 0) = false; rw [ck_zero, h1], trivial⟩ rfl rfl rfl
 | true =>
  rw [if_pos h1] at hr; cases hr
  have k1 := okB_ok h1
  have hz : decide (ckI n s S = 0) = true := by rw [ck_zero, h1]
  obtain ⟨T, rfl⟩ : ∃ T : Nat, S = T := ⟨S.toNat, by have := k1.low; omega⟩
  have hT : T <= 60 := by have := k1.high; omega
  have z := k1.size
  have zu : (zs (T + 1 - s.size) ++ s).size = (T + 1 - s.size) + s.size := by rw [ByteArray.size_append, zs_size]
  exact tree_nv run_ptext1 hc rfl ⟨hz, decide_eq_true (show (zs _).size + s.size <= 9223372036854775807 by rw [zs_size]; omega), txF_ok (u := zs (T + 1 - s.size) ++ s) (T := T) rfl rfl (by omega) (by omega)⟩ rfl rfl (tx_at (u := zs (T + 1 - s.size) ++ s) (T := T) (n := n) rfl rfl (by omega) (by omega) rfl (by
   unfold Dc.wide; rw [str_add, zs_bts, bts_length]))
end Go.Proofs.YtckodhldimhbfaaGreatDoor
namespace Go.Proofs.YtckodhldimhbfaaGreatDoor
open Go Go.RowKit

structure Good (w : World) : Prop where
 pow : Pow w
 mx : ∃ m : Int, w.cell? ⟨1, 0, none⟩ = some (.int .i64 m)
theorem Good.next {w w' : World} (h : Good w) (hb : Below w.heap.size w w') : Good w' := by
 refine ⟨h.pow.keep hb, ?_⟩
 obtain ⟨m, hm⟩ := h.mx
 have hlt := World.block_lt_of_cell? w _ hm
 exact ⟨m, (hb.cell (p := ⟨1, 0, none⟩) hlt).trans hm⟩
theorem prefix1 (l : List UInt8) (c : UInt8) : Lib.hasPrefix l [c] = decide ((l.map UInt8.toNat).head? = some c.toNat) := by
 cases l with
 | nil => rfl
 | cons b r =>
  unfold Lib.hasPrefix
  rw [Bool.eq_iff_iff]
  simp [List.isPrefixOf]
  constructor
  ·intro h; rw [h]
  ·intro h; exact (UInt8.toNat_inj.1 h).symm
theorem pref_any (s : ByteArray) (c : UInt8) (r : Bool) (h : decide ((bts s).head? = some c.toNat) = r) (w : World) : Calls Tryz.prog 101 #[.string s, .string ⟨#[c]⟩] w fun e w' => e = .returned (.bool r) /\ w = w' := by
 refine (Tryz.strings_HasPrefix s ⟨#[c]⟩ w).mono ?_
 rintro e w' ⟨rfl, hw⟩
 refine ⟨?_, hw.symm⟩
 have e1 : Lib.hasPrefix s.data.toList [c] = r := by rw [prefix1]; exact h
 rw [<- e1]
theorem cut_cons (b : UInt8) (l : List UInt8) (h : b ≠ 46) : (Lib.cut (b :: l) [46]).1 = b :: (Lib.cut l [46]).1 /\ (Lib.cut (b :: l) [46]).2.1 = (Lib.cut l [46]).2.1 := by
 have hp : ([46] : List UInt8).isPrefixOf (b :: l) = false := by simp [List.isPrefixOf]; exact fun e => h e.symm
 have hg := Lib.index_ge l [46]
 have hi0 : Lib.index (b :: l) [46] = if Lib.index l [46] == -1 then -1 else Lib.index l [46] + 1 := by rw [Lib.index, hp]; rfl
 unfold Lib.cut
 rw [hi0]
 by_cases hi : Lib.index l [46] = -1
 ·rw [hi]; exact ⟨rfl, rfl⟩
 ·obtain ⟨k, hk⟩ : ∃ k : Nat, Lib.index l [46] = k := ⟨(Lib.index l [46]).toNat, by omega⟩
  rw [hk]
  have e : ((k : Int) == -1) = false := beq_eq_false_iff_ne.2 (by omega)
  rw [e]
  simp only [Bool.false_eq_true, if_false]
  rw [if_pos (by omega), if_pos (by omega), show ((k : Int) + 1).toNat = k + 1 by omega, Int.toNat_natCast]
  exact ⟨rfl, rfl⟩
theorem cut_dot : ∀ l : List UInt8, (Lib.cut l [46]).1.map UInt8.toNat = Dc.whole (l.map UInt8.toNat) /\ (Lib.cut l [46]).2.1.map UInt8.toNat = Dc.part (l.map UInt8.toNat)
 | [] => ⟨rfl, rfl⟩
 | b :: l => by
  by_cases hb : b = 46
  ·subst hb
   have : Lib.index (46 :: l) [46] = 0 := by rw [Lib.index]; rfl
   unfold Lib.cut
   rw [this]
   exact ⟨rfl, rfl⟩
  ·obtain ⟨h1, h2⟩ := cut_cons b l hb
   obtain ⟨i1, i2⟩ := cut_dot l
   have hn : b.toNat ≠ 46 := fun e => hb (UInt8.toNat_inj.1 e)
   rw [h1, h2, List.map_cons, List.map_cons, i1, i2]
   unfold Dc.whole Dc.part
   rw [List.takeWhile_cons, List.dropWhile_cons, decide_eq_true hn]
   exact ⟨rfl, rfl⟩
theorem cut_any (s : ByteArray) (hs : s.size <= 1000000) (w : World) (hG : Good w) : Calls Tryz.prog 66 #[.string s, .string ⟨#[46]⟩] w fun e w' => (∃ (a b : ByteArray) (f : Bool), e = .returned (.tuple #[.string a, .string b, .bool f]) /\ bts a = Dc.whole (bts s) /\ bts b = Dc.part (bts s)) /\ Below w.heap.size w w' := by
 obtain ⟨m, hm⟩ := hG.mx
 refine (Tryz.strings_Cut s ⟨#[46]⟩ m w (by omega) hm).mono ?_
 rintro e w' ⟨rfl, n, rfl⟩
 have h := cut_dot s.data.toList
 exact ⟨⟨_, _, _, rfl, h.1, h.2⟩, below_drewN (Below.refl _ _) n⟩
theorem ponly_r (s : ByteArray) (hs : s.size <= 1000000) (r : Bool) (hr : onlyB s = r) (w : World) : Calls Tryz.prog 78 #[.string s] w fun e w' => e = .returned (.bool r) /\ w = w' := by
 rw [<- hr]; exact ponly_any s (by omega) w
theorem pread_minus_true (s : ByteArray) (hs : s.size <= 400) (h1 : (bts s).head? = some 45) (ho : ∀ m, Dc.unsign (bts s) = (true, m) -> onlyL (allL m) = true) (w : World) (hG : Good w) : Calls Tryz.prog 57 #[.string s] w fun e w' => e = (readR (bts s)).ret /\ Below w.heap.size w w' := by
 have hp := (head_byte h1).1
 have CP1 := Lib.hid (pref_any s 45 true (decide_eq_true h1))
 obtain ⟨t, ht⟩ : ∃ t, s.extract 1 s.size = t := ⟨_, rfl⟩
 have hu := Lib.hid (show Dc.unsign (bts s) = (true, bts t) by rw [<- ht]; exact unsign_minus h1)
 have htl : t.size <= 400 := by rw [<- bts_length, <- ht, bts_tail, List.length_tail, bts_length]; omega
 have k1 : (1 : Int) <= (s.size : Int) := by omega
 have ho' := Lib.hid (ho _ hu.out)
 have HG := Lib.hid hG
 obtain ⟨r, hr⟩ : ∃ r, readR (bts s) = r := ⟨_, rfl⟩
 have HR := Lib.hid hr
 have HC := Lib.hid (show resOf (Dc.can true (Dc.val (allL (bts t))) (Dc.part (bts t)).length) = r by rw [<- hr, readR_yes hu.out ho'.out])
 clear hr
 clear h1 ho hG
 go_enter Tryz.func57, Tryz.ntmps57
 go_wp2_with (first
  | (refine wl_allocA rfl zero_dec rfl (fun W2 b2 hb => ?_); have hB := hb; clear hb)
  | (go_at_call 101; refine (CP1.out _).mono ?_; rintro e w1 ⟨rfl, rfl⟩)
  | (go_at_call 66; refine (cut_any t (by omega) _ (HG.out.next hB)).mono ?_; rintro e W3 ⟨⟨a, b, f, rfl, ha, hb2⟩, hb⟩; replace hB := below_step hB hb; replace b2 := b2.keep hb; have hlen := Dc.whole_part_length (bts t); rw [List.length_append, <- ha, <- hb2, bts_length, bts_length, bts_length] at hlen; obtain ⟨u, hu2⟩ : ∃ u, a ++ b = u := ⟨_, rfl⟩; have HU := Lib.hid (show bts u = allL (bts t) by rw [<- hu2, str_add, ha, hb2]; rfl); have HBL := Lib.hid (show b.size = (Dc.part (bts t)).length by rw [<- bts_length, hb2]); have hul : u.size <= 400 := (by rw [<- hu2, <- bts_length, str_add, List.length_append, bts_length, bts_length]; omega); have hal : a.size <= 400 := (by omega); have hbl : b.size <= 400 := (by omega); clear hb ha hb2 hlen)
  | (go_at_call 78; refine (ponly_r u (by omega) true (by rw [onlyB_L, HU.out, ho'.out]) _).mono ?_; rintro e w4 ⟨rfl, rfl⟩)
  | (go_at_call 102; refine (pof_is true u b.size (by omega) (by omega) (by have h := ho'.out; unfold onlyL at h; rw [Bool.and_eq_true] at h; rw [HU.out]; exact h.1) r (by rw [HU.out, HBL.out]; exact HC.out) _).mono ?_; rintro e W5 ⟨rfl, hb⟩; replace hB := below_step hB hb; replace b2 := b2.keep hb; clear hb)
  | (refine wl_storeA b2 rfl _ _ rfl rfl rfl (by kernel_rfl) rfl rfl rfl (fun W8 b8 hg => ?_); have hB8 := below_far hB hB.size (Nat.le_refl _) hg; clear hg))
 exact bodyPost_ret (res_cell_tmp rfl b8 (by kernel_rfl) rfl rfl) rfl ⟨by rw [HR.out]; rfl, hB8⟩
theorem pread_minus_false (s : ByteArray) (hs : s.size <= 400) (h1 : (bts s).head? = some 45) (ho : ∀ m, Dc.unsign (bts s) = (true, m) -> onlyL (allL m) = false) (w : World) (hG : Good w) : Calls Tryz.prog 57 #[.string s] w fun e w' => e = (readR (bts s)).ret /\ Below w.heap.size w w' := by
 have hp := (head_byte h1).1
 have CP1 := Lib.hid (pref_any s 45 true (decide_eq_true h1))
 obtain ⟨t, ht⟩ : ∃ t, s.extract 1 s.size = t := ⟨_, rfl⟩
 have hu := Lib.hid (show Dc.unsign (bts s) = (true, bts t) by rw [<- ht]; exact unsign_minus h1)
 have htl : t.size <= 400 := by rw [<- bts_length, <- ht, bts_tail, List.length_tail, bts_length]; omega
 have k1 : (1 : Int) <= (s.size : Int) := by omega
 have ho' := Lib.hid (ho _ hu.out)
 have HG := Lib.hid hG
 have HR := Lib.hid (readR_no hu.out ho'.out)
 clear h1 ho hG
 go_enter Tryz.func57, Tryz.ntmps57
 go_wp2_with (first
  | (refine wl_allocA rfl zero_dec rfl (fun W2 b2 hb => ?_); have hB := hb; clear hb)
  | (go_at_call 101; refine (CP1.out _).mono ?_; rintro e w1 ⟨rfl, rfl⟩)
  | (go_at_call 66; refine (cut_any t (by omega) _ (HG.out.next hB)).mono ?_; rintro e W3 ⟨⟨a, b, f, rfl, ha, hb2⟩, hb⟩; replace hB := below_step hB hb; replace b2 := b2.keep hb; have hlen := Dc.whole_part_length (bts t); rw [List.length_append, <- ha, <- hb2, bts_length, bts_length, bts_length] at hlen; obtain ⟨u, hu2⟩ : ∃ u, a ++ b = u := ⟨_, rfl⟩; have HU := Lib.hid (show bts u = allL (bts t) by rw [<- hu2, str_add, ha, hb2]; rfl); have HBL := Lib.hid (show b.size = (Dc.part (bts t)).length by rw [<- bts_length, hb2]); have hul : u.size <= 400 := (by rw [<- hu2, <- bts_length, str_add, List.length_append, bts_length, bts_length]; omega); have hal : a.size <= 400 := (by omega); have hbl : b.size <= 400 := (by omega); clear hb ha hb2 hlen)
  | (go_at_call 78; refine (ponly_r u (by omega) false (by rw [onlyB_L, HU.out, ho'.out]) _).mono ?_; rintro e w4 ⟨rfl, rfl⟩)
  | (refine wl_storeA b2 rfl _ _ rfl rfl rfl (by kernel_rfl) rfl rfl rfl (fun W8 b8 hg => ?_); have hB8 := below_far hB hB.size (Nat.le_refl _) hg; clear hg))
 exact bodyPost_ret (res_cell_tmp rfl b8 (by kernel_rfl) rfl rfl) rfl ⟨by rw [HR.out]; rfl, hB8⟩
theorem pread_plus_true (s : ByteArray) (hs : s.size <= 400) (h1 : (bts s).head? = some 43) (ho : ∀ m, Dc.unsign (bts s) = (false, m) -> onlyL (allL m) = true) (w : World) (hG : Good w) : Calls Tryz.prog 57 #[.string s] w fun e w' => e = (readR (bts s)).ret /\ Below w.heap.size w w' := by
 have hp := (head_byte h1).1
 have CP1 := Lib.hid (pref_any s 45 false (by rw [h1]; rfl))
 have CP2 := Lib.hid (pref_any s 43 true (decide_eq_true h1))
 obtain ⟨t, ht⟩ : ∃ t, s.extract 1 s.size = t := ⟨_, rfl⟩
 have hu := Lib.hid (show Dc.unsign (bts s) = (false, bts t) by rw [<- ht]; exact unsign_plus h1)
 have htl : t.size <= 400 := by rw [<- bts_length, <- ht, bts_tail, List.length_tail, bts_length]; omega
 have k1 : (1 : Int) <= (s.size : Int) := by omega
 have ho' := Lib.hid (ho _ hu.out)
 have HG := Lib.hid hG
 obtain ⟨r, hr⟩ : ∃ r, readR (bts s) = r := ⟨_, rfl⟩
 have HR := Lib.hid hr
 have HC := Lib.hid (show resOf (Dc.can false (Dc.val (allL (bts t))) (Dc.part (bts t)).length) = r by rw [<- hr, readR_yes hu.out ho'.out])
 clear hr
 clear h1 ho hG
 have tok1 : True := trivial
 go_enter Tryz.func57, Tryz.ntmps57
 go_wp2_with (first
  | (refine wl_allocA rfl zero_dec rfl (fun W2 b2 hb => ?_); have hB := hb; clear hb)
  | (go_at_call 101; have _t := tok1; refine (CP1.out _).mono ?_; rintro e w1 ⟨rfl, rfl⟩; clear tok1 _t)
  | (go_at_call 101; refine (CP2.out _).mono ?_; rintro e w1 ⟨rfl, rfl⟩)
  | (go_at_call 66; refine (cut_any t (by omega) _ (HG.out.next hB)).mono ?_; rintro e W3 ⟨⟨a, b, f, rfl, ha, hb2⟩, hb⟩; replace hB := below_step hB hb; replace b2 := b2.keep hb; have hlen := Dc.whole_part_length (bts t); rw [List.length_append, <- ha, <- hb2, bts_length, bts_length, bts_length] at hlen; obtain ⟨u, hu2⟩ : ∃ u, a ++ b = u := ⟨_, rfl⟩; have HU := Lib.hid (show bts u = allL (bts t) by rw [<- hu2, str_add, ha, hb2]; rfl); have HBL := Lib.hid (show b.size = (Dc.part (bts t)).length by rw [<- bts_length, hb2]); have hul : u.size <= 400 := (by rw [<- hu2, <- bts_length, str_add, List.length_append, bts_length, bts_length]; omega); have hal : a.size <= 400 := (by omega); have hbl : b.size <= 400 := (by omega); clear hb ha hb2 hlen)
  | (go_at_call 78; refine (ponly_r u (by omega) true (by rw [onlyB_L, HU.out, ho'.out]) _).mono ?_; rintro e w4 ⟨rfl, rfl⟩)
  | (go_at_call 102; refine (pof_is false u b.size (by omega) (by omega) (by have h := ho'.out; unfold onlyL at h; rw [Bool.and_eq_true] at h; rw [HU.out]; exact h.1) r (by rw [HU.out, HBL.out]; exact HC.out) _).mono ?_; rintro e W5 ⟨rfl, hb⟩; replace hB := below_step hB hb; replace b2 := b2.keep hb; clear hb)
  | (refine wl_storeA b2 rfl _ _ rfl rfl rfl (by kernel_rfl) rfl rfl rfl (fun W8 b8 hg => ?_); have hB8 := below_far hB hB.size (Nat.le_refl _) hg; clear hg))
 exact bodyPost_ret (res_cell_tmp rfl b8 (by kernel_rfl) rfl rfl) rfl ⟨by rw [HR.out]; rfl, hB8⟩
theorem pread_plus_false (s : ByteArray) (hs : s.size <= 400) (h1 : (bts s).head? = some 43) (ho : ∀ m, Dc.unsign (bts s) = (false, m) -> onlyL (allL m) = false) (w : World) (hG : Good w) : Calls Tryz.prog 57 #[.string s] w fun e w' => e = (readR (bts s)).ret /\ Below w.heap.size w w' := by
 have hp := (head_byte h1).1
 have CP1 := Lib.hid (pref_any s 45 false (by rw [h1]; rfl))
 have CP2 := Lib.hid (pref_any s 43 true (decide_eq_true h1))
 obtain ⟨t, ht⟩ : ∃ t, s.extract 1 s.size = t := ⟨_, rfl⟩
 have hu := Lib.hid (show Dc.unsign (bts s) = (false, bts t) by rw [<- ht]; exact unsign_plus h1)
 have htl : t.size <= 400 := by rw [<- bts_length, <- ht, bts_tail, List.length_tail, bts_length]; omega
 have k1 : (1 : Int) <= (s.size : Int) := by omega
 have ho' := Lib.hid (ho _ hu.out)
 have HG := Lib.hid hG
 have HR := Lib.hid (readR_no hu.out ho'.out)
 clear h1 ho hG
 have tok1 : True := trivial
 go_enter Tryz.func57, Tryz.ntmps57
 go_wp2_with (first
  | (refine wl_allocA rfl zero_dec rfl (fun W2 b2 hb => ?_); have hB := hb; clear hb)
  | (go_at_call 101; have _t := tok1; refine (CP1.out _).mono ?_; rintro e w1 ⟨rfl, rfl⟩; clear tok1 _t)
  | (go_at_call 101; refine (CP2.out _).mono ?_; rintro e w1 ⟨rfl, rfl⟩)
  | (go_at_call 66; refine (cut_any t (by omega) _ (HG.out.next hB)).mono ?_; rintro e W3 ⟨⟨a, b, f, rfl, ha, hb2⟩, hb⟩; replace hB := below_step hB hb; replace b2 := b2.keep hb; have hlen := Dc.whole_part_length (bts t); rw [List.length_append, <- ha, <- hb2, bts_length, bts_length, bts_length] at hlen; obtain ⟨u, hu2⟩ : ∃ u, a ++ b = u := ⟨_, rfl⟩; have HU := Lib.hid (show bts u = allL (bts t) by rw [<- hu2, str_add, ha, hb2]; rfl); have HBL := Lib.hid (show b.size = (Dc.part (bts t)).length by rw [<- bts_length, hb2]); have hul : u.size <= 400 := (by rw [<- hu2, <- bts_length, str_add, List.length_append, bts_length, bts_length]; omega); have hal : a.size <= 400 := (by omega); have hbl : b.size <= 400 := (by omega); clear hb ha hb2 hlen)
  | (go_at_call 78; refine (ponly_r u (by omega) false (by rw [onlyB_L, HU.out, ho'.out]) _).mono ?_; rintro e w4 ⟨rfl, rfl⟩)
  | (refine wl_storeA b2 rfl _ _ rfl rfl rfl (by kernel_rfl) rfl rfl rfl (fun W8 b8 hg => ?_); have hB8 := below_far hB hB.size (Nat.le_refl _) hg; clear hg))
 exact bodyPost_ret (res_cell_tmp rfl b8 (by kernel_rfl) rfl rfl) rfl ⟨by rw [HR.out]; rfl, hB8⟩
theorem pread_none_true (s : ByteArray) (hs : s.size <= 400) (h1 : (bts s).head? ≠ some 45) (h2 : (bts s).head? ≠ some 43) (ho : ∀ m, Dc.unsign (bts s) = (false, m) -> onlyL (allL m) = true) (w : World) (hG : Good w) : Calls Tryz.prog 57 #[.string s] w fun e w' => e = (readR (bts s)).ret /\ Below w.heap.size w w' := by
 have CP1 := Lib.hid (pref_any s 45 false (decide_eq_false h1))
 have CP2 := Lib.hid (pref_any s 43 false (decide_eq_false h2))
 have hu := Lib.hid (unsign_none h1 h2)
 have ho' := Lib.hid (ho _ hu.out)
 have HG := Lib.hid hG
 obtain ⟨r, hr⟩ : ∃ r, readR (bts s) = r := ⟨_, rfl⟩
 have HR := Lib.hid hr
 have HC := Lib.hid (show resOf (Dc.can false (Dc.val (allL (bts s))) (Dc.part (bts s)).length) = r by rw [<- hr, readR_yes hu.out ho'.out])
 clear hr
 clear h1 h2 ho hG
 have tok1 : True := trivial
 go_enter Tryz.func57, Tryz.ntmps57
 go_wp2_with (first
  | (refine wl_allocA rfl zero_dec rfl (fun W2 b2 hb => ?_); have hB := hb; clear hb)
  | (go_at_call 101; have _t := tok1; refine (CP1.out _).mono ?_; rintro e w1 ⟨rfl, rfl⟩; clear tok1 _t)
  | (go_at_call 101; refine (CP2.out _).mono ?_; rintro e w1 ⟨rfl, rfl⟩)
  | (go_at_call 66; refine (cut_any s (by omega) _ (HG.out.next hB)).mono ?_; rintro e W3 ⟨⟨a, b, f, rfl, ha, hb2⟩, hb⟩; replace hB := below_step hB hb; replace b2 := b2.keep hb; have hlen := Dc.whole_part_length (bts s); rw [List.length_append, <- ha, <- hb2, bts_length, bts_length, bts_length] at hlen; obtain ⟨u, hu2⟩ : ∃ u, a ++ b = u := ⟨_, rfl⟩; have HU := Lib.hid (show bts u = allL (bts s) by rw [<- hu2, str_add, ha, hb2]; rfl); have HBL := Lib.hid (show b.size = (Dc.part (bts s)).length by rw [<- bts_length, hb2]); have hul : u.size <= 400 := (by rw [<- hu2, <- bts_length, str_add, List.length_append, bts_length, bts_length]; omega); have hal : a.size <= 400 := (by omega); have hbl : b.size <= 400 := (by omega); clear hb ha hb2 hlen)
  | (go_at_call 78; refine (ponly_r u (by omega) true (by rw [onlyB_L, HU.out, ho'.out]) _).mono ?_; rintro e w4 ⟨rfl, rfl⟩)
  | (go_at_call 102; refine (pof_is false u b.size (by omega) (by omega) (by have h := ho'.out; unfold onlyL at h; rw [Bool.and_eq_true] at h; rw [HU.out]; exact h.1) r (by rw [HU.out, HBL.out]; exact HC.out) _).mono ?_; rintro e W5 ⟨rfl, hb⟩; replace hB := below_step hB hb; replace b2 := b2.keep hb; clear hb)
  | (refine wl_storeA b2 rfl _ _ rfl rfl rfl (by kernel_rfl) rfl rfl rfl (fun W8 b8 hg => ?_); have hB8 := below_far hB hB.size (Nat.le_refl _) hg; clear hg))
 exact bodyPost_ret (res_cell_tmp rfl b8 (by kernel_rfl) rfl rfl) rfl ⟨by rw [HR.out]; rfl, hB8⟩
theorem pread_none_false (s : ByteArray) (hs : s.size <= 400) (h1 : (bts s).head? ≠ some 45) (h2 : (bts s).head? ≠ some 43) (ho : ∀ m, Dc.unsign (bts s) = (false, m) -> onlyL (allL m) = false) (w : World) (hG : Good w) : Calls Tryz.prog 57 #[.string s] w fun e w' => e = (readR (bts s)).ret /\ Below w.heap.size w w' := by
 have CP1 := Lib.hid (pref_any s 45 false (decide_eq_false h1))
 have CP2 := Lib.hid (pref_any s 43 false (decide_eq_false h2))
 have hu := Lib.hid (unsign_none h1 h2)
 have ho' := Lib.hid (ho _ hu.out)
 have HG := Lib.hid hG
 have HR := Lib.hid (readR_no hu.out ho'.out)
 clear h1 h2 ho hG
 have tok1 : True := trivial
 go_enter Tryz.func57, Tryz.ntmps57
 go_wp2_with (first
  | (refine wl_allocA rfl zero_dec rfl (fun W2 b2 hb => ?_); have hB := hb; clear hb)
  | (go_at_call 101; have _t := tok1; refine (CP1.out _).mono ?_; rintro e w1 ⟨rfl, rfl⟩; clear tok1 _t)
  | (go_at_call 101; refine (CP2.out _).mono ?_; rintro e w1 ⟨rfl, rfl⟩)
  | (go_at_call 66; refine (cut_any s (by omega) _ (HG.out.next hB)).mono ?_; rintro e W3 ⟨⟨a, b, f, rfl, ha, hb2⟩, hb⟩; replace hB := below_step hB hb; replace b2 := b2.keep hb; have hlen := Dc.whole_part_length (bts s); rw [List.length_append, <- ha, <- hb2, bts_length, bts_length, bts_length] at hlen; obtain ⟨u, hu2⟩ : ∃ u, a ++ b = u := ⟨_, rfl⟩; have HU := Lib.hid (show bts u = allL (bts s) by rw [<- hu2, str_add, ha, hb2]; rfl); have HBL := Lib.hid (show b.size = (Dc.part (bts s)).length by rw [<- bts_length, hb2]); have hul : u.size <= 400 := (by rw [<- hu2, <- bts_length, str_add, List.length_append, bts_length, bts_length]; omega); have hal : a.size <= 400 := (by omega); have hbl : b.size <= 400 := (by omega); clear hb ha hb2 hlen)
  | (go_at_call 78; refine (ponly_r u (by omega) false (by rw [onlyB_L, HU.out, ho'.out]) _).mono ?_; rintro e w4 ⟨rfl, rfl⟩)
  | (refine wl_storeA b2 rfl _ _ rfl rfl rfl (by kernel_rfl) rfl rfl rfl (fun W8 b8 hg => ?_); have hB8 := below_far hB hB.size (Nat.le_refl _) hg; clear hg))
 exact bodyPost_ret (res_cell_tmp rfl b8 (by kernel_rfl) rfl rfl) rfl ⟨by rw [HR.out]; rfl, hB8⟩
theorem pread_is (s : ByteArray) (hs : s.size <= 400) (r : Res) (hr : readR (bts s) = r) (w : World) (hG : Good w) : Calls Tryz.prog 57 #[.string s] w fun e w' => e = .returned (.tuple #[.agg #[.bool r.n, .string r.s, .int .i64 r.S], .int .i64 r.k]) /\ Below w.heap.size w w' := by
 subst hr
 by_cases h1 : (bts s).head? = some 45
 ·cases ho : onlyL (allL (bts (s.extract 1 s.size))) with
  | true => exact pread_minus_true s hs h1 (fun m hm => by rw [unsign_minus h1] at hm; cases hm; exact ho) w hG
  | false => exact pread_minus_false s hs h1 (fun m hm => by rw [unsign_minus h1] at hm; cases hm; exact ho) w hG
 ·by_cases h2 : (bts s).head? = some 43
  ·cases ho : onlyL (allL (bts (s.extract 1 s.size))) with
   | true => exact pread_plus_true s hs h2 (fun m hm => by rw [unsign_plus h2] at hm; cases hm; exact ho) w hG
   | false => exact pread_plus_false s hs h2 (fun m hm => by rw [unsign_plus h2] at hm; cases hm; exact ho) w hG
  ·cases ho : onlyL (allL (bts s)) with
   | true => exact pread_none_true s hs h1 h2 (fun m hm => by rw [unsign_none h1 h2] at hm; cases hm; exact ho) w hG
   | false => exact pread_none_false s hs h1 h2 (fun m hm => by rw [unsign_none h1 h2] at hm; cases hm; exact ho) w hG
theorem Vars.good {m : Int} {w : World} (h : Vars m w) : Good w := by
 obtain ⟨lo, hi, h0, _⟩ := h.row0
 exact ⟨h.pow, m, by simp [World.cell?, h0]⟩
end Go.Proofs.YtckodhldimhbfaaGreatDoor
