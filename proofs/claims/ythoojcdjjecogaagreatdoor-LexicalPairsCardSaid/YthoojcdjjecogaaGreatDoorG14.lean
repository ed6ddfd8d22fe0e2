/-
  Part 14 of the proof: what functions return, and plain facts (Pcmpd Pdiv). Conditions: each theorem names its own.
-/
import Derived.Test.YthoojcdjjecogaaGreatDoorG13
set_option maxRecDepth 1000000
set_option maxHeartbeats 16000000
namespace Go.Proofs.YthoojcdjjecogaaGreatDoor
open Go Go.RowKit Go.Ex
set_option maxRecDepth 1000000

theorem some_if (p : Prop) (v k : Nat) (h : p -> v < 10 ^ k) : ∃ x, x < 10 ^ k /\ (p -> v = x) := by
 by_cases hp : p
 ·exact ⟨v, h hp, fun _ => rfl⟩
 ·exact ⟨0, Dc.pow10_pos k, fun q => absurd q hp⟩
theorem max_low {S U : Int} (h1 : 0 <= S /\ S <= 60) (h2 : 0 <= U /\ U <= 60) : (if S < U then U else S) = ((max (lowN S) (lowN U) : Nat) : Int) := by
 rw [<- mx_nat, lowN_eq h1.1 h1.2, lowN_eq h2.1 h2.2]
theorem pscaled_v {n : Bool} {s : ByteArray} {S : Int} (k : OkD n s S) {K A : Nat} (hS : lowN S <= K) (hK : K <= 120) (hA : Dc.val (bts s) * 10 ^ (K - lowN S) = A) {l : List Nat} (hl : NumIs l A) (w : World) : Calls Tryz.prog 83 #[.agg #[.bool n, .string s, .int .i64 S], .int .i64 (K : Int)] w fun e w' => e = .returned (.agg (numV l)) /\ Below w.heap.size w w' := by
 have h := pscaled_any n s (lowN S) K k.size k.dig.all hS hK w
 rw [lowN_eq k.low k.high, hA] at h
 exact num_call hl h
def cmT2 : Tree := .node (.eq (.at 7) (.int 0)) (.node (.eq (.at 8) (.int 0)) (.node (.at 1) (.node (.beq (.tt true) (.at 4)) (.leaf (.tup [.xi .i64 (.mul .i64 (.int (-1)) (.at 9)), it 0])) (.leaf (.tup [it (-1), it 0]))) (.node (.beq (.tt false) (.at 4)) (.leaf (.tup [.xi .i64 (.mul .i64 (.int 1) (.at 9)), it 0])) (.leaf (.tup [it 1, it 0])))) (.leaf (.tup [it 0, it 2]))) (.leaf (.tup [it 0, it 2]))
def pmC : List CallX := [⟨34, [deV 1], [], xi 7⟩, ⟨34, [deV 4], [], xi 8⟩, ⟨83, [deV 1, .xi .i64 mxX], twP, nuV 10⟩, ⟨83, [deV 4, .xi .i64 mxX], twP, nuV 34⟩, ⟨84, [nuV 10, nuV 34], [], xi 9⟩]
theorem run_pcmp : chk (runTr Tryz.prog nG (fun _ => none) (fun _ => true) deT pmC 100 43 [deV 1, deV 4] hN) cmT2 [] = true := by decide +kernel
theorem pcmp_is (n : Bool) (s : ByteArray) (S : Int) (m : Bool) (t : ByteArray) (U : Int) (hs : s.size <= 1000000) (ht : t.size <= 1000000) (z k : Int) (hr : cmpR n s S m t U = (z, k)) (w : World) : Calls Tryz.prog 43 #[.agg #[.bool n, .string s, .int .i64 S], .agg #[.bool m, .string t, .int .i64 U]] w fun e w' => e = .returned (.tuple #[.int .i64 z, .int .i64 k]) /\ Below w.heap.size w w' := by
 have l1 := lowN_le S; have l2 := lowN_le U
 obtain ⟨K, hK⟩ : ∃ K, max (lowN S) (lowN U) = K := ⟨_, rfl⟩
 obtain ⟨A, lA, hA⟩ := some_if (OkD n s S) (Dc.val (bts s) * 10 ^ (K - lowN S)) 120 fun h => scaled_low h.size h.dig.all (by omega)
 obtain ⟨B, lB, hB⟩ := some_if (OkD m t U) (Dc.val (bts t) * 10 ^ (K - lowN U)) 120 fun h => scaled_low h.size h.dig.all (by omega)
 obtain ⟨a, ha⟩ := num_some (lt_top lA (by decide))
 obtain ⟨b, hb⟩ := num_some (lt_top lB (by decide))
 obtain ⟨c, hc⟩ : ∃ c, cmpI A B = c := ⟨_, rfl⟩
 have n1 := nu_den ha.1.len (num_at (x := .int .i64 0) (pre := [.bool n, .string s, .int .i64 S, .bool m, .string t, .int .i64 U, .int .i64 (ckI n s S), .int .i64 (ckI m t U), .int .i64 c]) (post := numC b) (b := 10) ha.1.len rfl)
 have n2 := nu_den hb.1.len (num_at (x := .int .i64 0) (pre := [.bool n, .string s, .int .i64 S, .bool m, .string t, .int .i64 U, .int .i64 (ckI n s S), .int .i64 (ckI m t U), .int .i64 c] ++ numC a) (post := []) (b := 34) hb.1.len (by simp [numC, ha.1.len]))
 rw [List.append_assoc, List.append_nil] at n2
 refine tree_nv (env := .append [.bool n, .string s, .int .i64 S, .bool m, .string t, .int .i64 U, .int .i64 (ckI n s S), .int .i64 (ckI m t U), .int .i64 c] (numC a ++ numC b)) run_pcmp ?_ (show (List.all (numC a ++ numC b) _) = true by rw [List.all_append, numC_one, numC_one]; rfl) trivial rfl rfl ?_
 ·refine ⟨⟨rfl, fk, fun _ L w _ => pcheck_r n s S hs _ rfl w⟩, ⟨rfl, fk, fun _ L w _ => pcheck_r m t U ht _ rfl w⟩, ⟨rfl, fk, fun hp L w _ => ?_⟩, ⟨rfl, fk, fun hp L w _ => ?_⟩, ⟨rfl, fk, fun _ L w _ => ?_⟩, trivial⟩
  ·obtain ⟨k1, k2, _⟩ := tw_of rfl rfl hp
   exact callR (n1 L) (call2 rfl (congrArg (Value.int .i64) (max_low ⟨k1.low, k1.high⟩ ⟨k2.low, k2.high⟩)) (hK ▸ pscaled_v k1 (by omega) (by omega) (hA k1) ha w))
  ·obtain ⟨k1, k2, _⟩ := tw_of rfl rfl hp
   exact callR (n2 L) (call2 rfl (congrArg (Value.int .i64) (max_low ⟨k1.low, k1.high⟩ ⟨k2.low, k2.high⟩)) (hK ▸ pscaled_v k2 (by omega) (by omega) (hB k2) hb w))
  ·have h := pcmp_any a b ha.1 hb.1 w
   rw [ha.2, hb.2, hc] at h
   exact call2 (n1 L) (n2 L) h
 ·show (bif decide (ckI n s S = 0) then bif decide (ckI m t U = 0) then bif n then bif true == m then V.tup [.xi .i64 (.mul .i64 (.int (-1)) (.at 9)), it 0] else .tup [it (-1), it 0] else bif false == m then .tup [.xi .i64 (.mul .i64 (.int 1) (.at 9)), it 0] else .tup [it 1, it 0] else .tup [it 0, it 2] else .tup [it 0, it 2]).den L0 _ = _
  rw [ck_zero, ck_zero]
  unfold cmpR at hr
  cases h1 : okB n s S
  ·rw [if_neg (by rw [h1]; simp)] at hr; cases hr; rfl
  cases h2 : okB m t U
  ·rw [if_neg (by rw [h2]; simp)] at hr; cases hr; rfl
  rw [if_pos ⟨h1, h2⟩] at hr; cases hr
  have k1 := okB_ok h1; have k2 := okB_ok h2
  have e1 : S.toNat = lowN S := by have := lowN_eq k1.low k1.high; omega
  have e2 : U.toNat = lowN U := by have := lowN_eq k2.low k2.high; omega
  have g1 : Dc.val (bts s) * 10 ^ (K - S.toNat) = A := by rw [e1]; exact hA k1
  have g2 : Dc.val (bts t) * 10 ^ (K - U.toNat) = B := by rw [e2]; exact hB k2
  have g3 : max S.toNat U.toNat = K := by rw [e1, e2]; exact hK
  have bd : -1 <= c /\ c <= 1 := by rw [<- hc]; unfold cmpI; repeat' split; all_goals omega
  cases n <;> cases m
  ·show Value.tuple #[.int .i64 (IntKind.i64.wrap (1 * c)), .int .i64 0] = _
   rw [show Dc.cmpD (rawD false s S) (rawD false t U) = c from (Dc.cmpD_pos _ _ _ _ g3 g1 g2).trans hc, IntKind.wrap_i64, show (1 * c + 9223372036854775808) % 18446744073709551616 - 9223372036854775808 = c by omega]
  ·show Value.tuple #[.int .i64 1, .int .i64 0] = _
   rw [Dc.cmpD_pn k1.can k2.can rfl rfl]
  ·show Value.tuple #[.int .i64 (-1), .int .i64 0] = _
   rw [Dc.cmpD_np k1.can k2.can rfl rfl]
  ·show Value.tuple #[.int .i64 (IntKind.i64.wrap (-1 * c)), .int .i64 0] = _
   rw [show Dc.cmpD (rawD true s S) (rawD true t U) = -c from (Dc.cmpD_neg _ _ _ _ g3 g1 g2).trans (congrArg (- ·) hc), IntKind.wrap_i64, show (-1 * c + 9223372036854775808) % 18446744073709551616 - 9223372036854775808 = -c by omega]
set_option maxRecDepth 1000000

theorem pair_eq {a b c d : Value} (h : a = c) (h' : b = d) : Value.tuple #[a, b] = .tuple #[c, d] := by rw [h, h']
theorem repeat_v (z : Int) (c : Nat) (hz : z = c) (hc : c <= 1000) (w : World) : Calls Tryz.prog 99 #[.string ⟨#[48]⟩, .int .i64 z] w fun e w' => e = .returned (.string (zs c)) /\ Below w.heap.size w w' := by
 subst hz
 refine (repeat_zeros c hc w).mono ?_
 rintro e w' ⟨⟨r, rfl, hr⟩, hb⟩
 exact ⟨by rw [<- str_bts r, hr]; rfl, hb⟩
def pvC : List CallX := [⟨34, [deV 1], [], xi 7⟩, ⟨34, [deV 4], [], xi 8⟩, ⟨99, [.str [48], .xi .i64 (.add .i64 (.sub .i64 mxX (.at 3)) (.at 10))], dvP, xs 9⟩, ⟨83, [deV 4, .xi .i64 mxX], dvP, nuV 24⟩, ⟨170, [.xs (.cat (.at 2) (.at 9)), nuV 24], dvP, .tup [nuV 48, nuV 72]⟩,
 ⟨172, [nuV 48], [], xs 11⟩, ⟨171, [.bool false, xs 11, xi 10], dvP, rsV 16⟩, ⟨171, [.bool true, xs 11, xi 10], dvP, rsV 20⟩]
theorem run_pdiv : chk (runTr Tryz.prog nG (fun _ => none) gd moT pvC 100 147 [deV 1, deV 4, xi 10] h0) dvT [(.fits (.at 2) (.at 9), true)] = true := by decide +kernel
theorem pdiv_is (n : Bool) (s : ByteArray) (S : Int) (m : Bool) (t : ByteArray) (U : Int) (K : Int) (hs : s.size <= 1000000) (ht : t.size <= 1000000) (r : Res) (hr : divR n s S m t U K = r) (w : World) {M : Int} (hV : Vars M w) : Calls Tryz.prog 147 #[.agg #[.bool n, .string s, .int .i64 S], .agg #[.bool m, .string t, .int .i64 U], .int .i64 K] w fun e w' => e = .returned (.tuple #[.agg #[.bool r.n, .string r.s, .int .i64 r.S], .int .i64 r.k]) /\ Below w.heap.size w w' := by
 have l1 := lowN_le S; have l2 := lowN_le U; have l3 := lowN_le K
 obtain ⟨a, ha⟩ : ∃ a, max (lowN S) (lowN U) - lowN S = a := ⟨_, rfl⟩
 obtain ⟨b, hb⟩ : ∃ b, max (lowN S) (lowN U) - lowN U = b := ⟨_, rfl⟩
 obtain ⟨B, lB, hB⟩ := some_if (OkD m t U) (Dc.val (bts t) * 10 ^ b) 120 fun h => scaled_low h.size h.dig.all (by omega)
 obtain ⟨q, lq, hq⟩ := some_if (OkD n s S) (quV s t a b (lowN K)) 180 fun h => quV_low h (by omega) l3
 obtain ⟨o, lo, ho⟩ := some_if (0 < B) (Dc.val (bts s) * 10 ^ (a + lowN K) % B) 120 fun h => Nat.lt_trans (Nat.mod_lt _ h) lB
 obtain ⟨p, hp'⟩ : ∃ p, str (Dc.digs q) = p := ⟨_, rfl⟩
 obtain ⟨r1, g1⟩ : ∃ r, resOf (Dc.can false q (lowN K)) = r := ⟨_, rfl⟩
 obtain ⟨r2, g2⟩ : ∃ r, resOf (Dc.can true q (lowN K)) = r := ⟨_, rfl⟩
 obtain ⟨lb, hlb⟩ := num_some (lt_top lB (by decide))
 obtain ⟨lq', hlq⟩ := num_some (lt_top lq (by decide))
 obtain ⟨lo', hlo⟩ := num_some (lt_top lo (by decide))
 have eN : ∀ {S : Int}, 0 <= S -> S <= 60 -> S.toNat = lowN S := fun h0 h1 => by have := lowN_eq h0 h1; omega
 have back : 0 <= K -> K <= 60 -> okB n s S = true -> okB m t U = true -> Dc.quo (rawD n s S) (rawD m t U) K.toNat = q /\ K.toNat = lowN K := fun c d e f => by
  have k1 := okB_ok e; have k2 := okB_ok f
  rw [quo_is, eN c d, eN k1.low k1.high, eN k2.low k2.high, ha, hb]
  exact ⟨hq k1, rfl⟩
 obtain ⟨pre, hpre⟩ : ∃ l : List Value, l = .append [.bool n, .string s, .int .i64 S, .bool m, .string t, .int .i64 U, .int .i64 (ckI n s S), .int .i64 (ckI m t U), .string (zs (a + lowN K)), .int .i64 K, .string p, .bool true, .bool true, .bool true, .bool true] (resC r1 (resL r2)) := ⟨_, rfl⟩
 have hpl : pre.length = 23 := by rw [hpre]; rfl
 have n1 := nu_den hlb.1.len (num_at (x := .int .i64 M) (pre := pre) (post := numC lq' ++ numC lo') (b := 24) hlb.1.len (by rw [hpl]))
 have n2 := nu_den hlq.1.len (num_at (x := .int .i64 M) (pre := pre ++ numC lb) (post := numC lo') (b := 48) hlq.1.len (by simp [hpl, numC, hlb.1.len]))
 have n3 := nu_den hlo.1.len (num_at (x := .int .i64 M) (pre := pre ++ numC lb ++ numC lq') (post := []) (b := 72) hlo.1.len (by simp [hpl, numC, hlb.1.len, hlq.1.len]))
 simp only [List.append_assoc, List.append_nil] at n1 n2 n3
 obtain ⟨post, hpost⟩ : ∃ l, numC lb ++ (numC lq' ++ numC lo') = l := ⟨_, rfl⟩
 have hone : post.all Value.oneCell' = true := by rw [<- hpost]; simp only [List.all_append, numC_one, Bool.and_self]
 rw [hpost] at n1 n2 n3
 subst hpre
 refine tree_rv (env := .append [.bool n, .string s, .int .i64 S, .bool m, .string t, .int .i64 U, .int .i64 (ckI n s S), .int .i64 (ckI m t U), .string (zs (a + lowN K)), .int .i64 K, .string p, .bool true, .bool true, .bool true, .bool true] (resC r1 (List.append (resL r2) post))) run_pdiv ?_ hone ⟨decide_eq_true ?_, trivial⟩ rfl rfl
  (dv_at (n := n) (m := m) (s := s) (t := t) (S := S) (U := U) (K := K) (r1 := r1) (r2 := r2) ⟨rfl, rfl, rfl, rfl, rfl, rfl⟩ ⟨rfl, rfl, rfl, rfl⟩ ⟨rfl, rfl, rfl, rfl⟩ (fun a b c d => by rw [(back a b c d).1, (back a b c d).2]; exact g1) (fun a b c d => by rw [(back a b c d).1, (back a b c d).2]; exact g2) hr) hV
 ·refine ⟨⟨rfl, fk, fun _ L w _ => pcheck_r n s S hs _ rfl w⟩, ⟨rfl, fk, fun _ L w _ => pcheck_r m t U ht _ rfl w⟩, ⟨rfl, fk, fun hp L w hV => ?_⟩, ⟨rfl, fk, fun hp L w hV => ?_⟩, ⟨rfl, fk, fun hp L w hV => ?_⟩, ⟨rfl, fk, fun hp L w hV => ?_⟩, ⟨rfl, fk, fun hp L w hV => ?_⟩, ⟨rfl, fk, fun hp L w hV => ?_⟩, trivial⟩
  ·obtain ⟨k1, k2, hv, c1, c2⟩ := dv_of (n := n) (m := m) (s := s) (t := t) (S := S) (U := U) (K := K) rfl rfl hp
   refine repeat_v _ _ ?_ (by omega) w
   show IntKind.i64.wrap (IntKind.i64.wrap ((if S < U then U else S) - S) + K) = _
   rw [max_low ⟨k1.low, k1.high⟩ ⟨k2.low, k2.high⟩, IntKind.wrap_i64, IntKind.wrap_i64]
   have q1 := lowN_eq k1.low k1.high; have q2 := lowN_eq c1 c2
   omega
  ·obtain ⟨k1, k2, hv, c1, c2⟩ := dv_of (n := n) (m := m) (s := s) (t := t) (S := S) (U := U) (K := K) rfl rfl hp
   exact callR (n1 L) (call2 rfl (congrArg (Value.int .i64) (max_low (S := S) (U := U) ⟨k1.low, k1.high⟩ ⟨k2.low, k2.high⟩)) (pscaled_v k2 (K := max (lowN S) (lowN U)) (by omega) (by omega) (by rw [hb]; exact hB k2) hlb w))
  ·obtain ⟨k1, k2, hv, c1, c2⟩ := dv_of (n := n) (m := m) (s := s) (t := t) (S := S) (U := U) (K := K) rfl rfl hp
   have hB0 : 0 < B := by rw [<- hB k2]; exact Nat.mul_pos hv (Dc.pow10_pos _)
   have a1 := k1.size
   have h := pover_any (zf s (a + lowN K)) lb (by rw [zf_size]; omega) (zf_all k1.dig.all _) hlb.1 (by rw [hlb.2]; exact hB0) (by
    rw [hlb.2, top_pow]
    have h3 : B * 10 <= 10 ^ 120 * 10 := Nat.mul_le_mul_right _ (Nat.le_of_lt lB)
    exact Nat.le_trans h3 (by rw [<- Nat.pow_succ]; exact Nat.pow_le_pow_right (by decide) (by decide))) w
   rw [hlb.2, zf_val, ho hB0, show Dc.val (bts s) * 10 ^ (a + lowN K) / B = q by rw [<- hq k1, <- hB k2]; rfl] at h
   refine callR (pair_eq (n2 L) (n3 L)) (call2 rfl (n1 L) (h.mono ?_))
   rintro e w' ⟨⟨Q, R, rfl, hQ, hR, vQ, vR⟩, hb⟩
   refine ⟨?_, hb⟩
   rw [numL_of hQ, numL_of hR, vQ, vR, numL_of hlq.1, numL_of hlo.1, hlq.2, hlo.2]
  ·exact call1 (n2 L) (pdigits_v hlq hp' w hV.pow)
  ·obtain ⟨k1, k2, hv, c1, c2⟩ := dv_of (n := n) (m := m) (s := s) (t := t) (S := S) (U := U) (K := K) rfl rfl hp
   have h := pof_v false q (lowN K) (Nat.lt_trans lq (by decide +kernel)) (by omega) hp' g1 w
   rw [lowN_eq c1 c2] at h
   exact h
  ·obtain ⟨k1, k2, hv, c1, c2⟩ := dv_of (n := n) (m := m) (s := s) (t := t) (S := S) (U := U) (K := K) rfl rfl hp
   have h := pof_v true q (lowN K) (Nat.lt_trans lq (by decide +kernel)) (by omega) hp' g2 w
   rw [lowN_eq c1 c2] at h
   exact h
 ·show s.size + (zs _).size <= _
  rw [zs_size]; omega
end Go.Proofs.YthoojcdjjecogaaGreatDoor
