/-
  Part 13 of the proof: what functions return, and plain facts (Radd Rcmp Rdiv Psum Padd Pread Xlift Xnum Mlen Pofn). Conditions: each theorem names its own.
-/
import Derived.Test.YthoojcdjjecogaaGreatDoorG09
import Derived.Test.YthoojcdjjecogaaGreatDoorG10
import Derived.Test.YthoojcdjjecogaaGreatDoorG11
import Derived.Test.YthoojcdjjecogaaGreatDoorG12
import Derived.Test.YthoojcdjjecogaaGreatDoorRows
import Derived.ProofKit
import Derived.LaidMore
import Derived.OpenShut
import Derived.Stop.Joined
import Derived.Lay
import Derived.Deep.DeepHandedRow
import Derived.Deep.DeepWitnessRowRef
import Derived.Lib.LaidTab
import Derived.Shelf.Vars
import Derived.Carry
import Derived.ChangeMaps5
set_option maxRecDepth 1000000
set_option maxHeartbeats 16000000
namespace Go.Proofs.YthoojcdjjecogaaGreatDoor
open Go Go.RowKit Go.Ex
set_option maxRecDepth 1000000

theorem ck_zero (n : Bool) (s : ByteArray) (S : Int) : decide (ckI n s S = 0) = okB n s S := by
 cases h : okB n s S
 ·rw [ck_no h]; rfl
 ·rw [ck_yes h]; rfl
def twT : Tree := .node (.eq (.at 7) (.int 0)) (.node (.eq (.at 8) (.int 0)) (.leaf (rsV 9)) (.leaf (noV 2))) (.leaf (noV 2))
def twP : Fx := [(.eq (.at 7) (.int 0), true), (.eq (.at 8) (.int 0), true)]
def twE (n : Bool) (s : ByteArray) (S : Int) (m : Bool) (t : ByteArray) (U : Int) (r : Res) : List Value := .append [.bool n, .string s, .int .i64 S, .bool m, .string t, .int .i64 U, .int .i64 (ckI n s S), .int .i64 (ckI m t U)] (resC r [.bool (oppN m t)])
theorem tw_of {n m : Bool} {s t : ByteArray} {S U a b : Int} (ha : a = ckI n s S) (hb : b = ckI m t U) (h : decide (a = 0) = true /\ decide (b = 0) = true /\ True) : OkD n s S /\ OkD m t U /\ okB n s S = true /\ okB m t U = true := by
 have h1 := h.1; have h2 := h.2.1
 rw [ha, ck_zero] at h1; rw [hb, ck_zero] at h2
 exact ⟨okB_ok h1, okB_ok h2, h1, h2⟩
theorem tw_at (x : Value) (n : Bool) (s : ByteArray) (S : Int) (m : Bool) (t : ByteArray) (U : Int) (f : Dc.D -> Dc.D -> Option Dc.D) {q r : Res} (hq : resOf (f (rawD n s S) (rawD m t U)) = q) (hr : twoR f n s S m t U = r) : (twT.at (envE (x :: twE n s S m t U q))).den L0 (envE (x :: twE n s S m t U q)) = r.val := by
 have e : twT.at (envE (x :: twE n s S m t U q)) = bif decide (ckI n s S = 0) then bif decide (ckI m t U = 0) then rsV 9 else noV 2 else noV 2 := rfl
 rw [e, ck_zero, ck_zero, <- hr]
 unfold twoR
 cases okB n s S
 ·rfl
 ·cases okB m t U
  ·rfl
  ·rw [if_pos ⟨rfl, rfl⟩, hq]
   exact ResAt.den (b := 9) (r := q) ⟨rfl, rfl, rfl, rfl⟩
def raC (c a : FuncId) : List CallX := [⟨c, [deV 1], [], xi 7⟩, ⟨c, [deV 4], [], xi 8⟩, ⟨a, [deV 1, deV 4], twP, rsV 9⟩]
def rbC (c a o : FuncId) : List CallX := [⟨c, [deV 1], [], xi 7⟩, ⟨c, [deV 4], [], xi 8⟩, ⟨o, [deV 4], [], .agg [xb 13, xs 5, xi 6]⟩, ⟨a, [deV 1, .agg [xb 13, xs 5, xi 6]], twP, rsV 9⟩]
theorem run_radd : chk (runTr Tryz.prog nG (fun _ => none) (fun _ => true) deT (raC 39 178) 100 154 [deV 1, deV 4] hN) twT [] = true := by decide +kernel
theorem run_rsub : chk (runTr Tryz.prog nG (fun _ => none) (fun _ => true) deT (rbC 39 178 179) 100 153 [deV 1, deV 4] hN) twT [] = true := by decide +kernel
section
variable (n : Bool) (s : ByteArray) (S : Int) (m : Bool) (t : ByteArray) (U : Int) (hs : s.size <= 1000000) (ht : t.size <= 1000000) (r : Res)
include hs ht
theorem radd_is (hr : twoR Dc.addD n s S m t U = r) (w : World) : Calls Tryz.prog 154 #[.agg #[.bool n, .string s, .int .i64 S], .agg #[.bool m, .string t, .int .i64 U]] w fun e w' => e = .returned (.tuple #[.agg #[.bool r.n, .string r.s, .int .i64 r.S], .int .i64 r.k]) /\ Below w.heap.size w w' := by
 obtain ⟨q, hq⟩ : ∃ q, resOf (Dc.addD (rawD n s S) (rawD m t U)) = q := ⟨_, rfl⟩
 refine tree_nv (env := twE n s S m t U q) run_radd ?_ rfl trivial rfl rfl (tw_at _ n s S m t U Dc.addD hq hr)
 refine ⟨⟨rfl, fk, fun _ L w _ => rcheck_r n s S hs _ rfl w⟩, ⟨rfl, fk, fun _ L w _ => rcheck_r m t U ht _ rfl w⟩, ⟨rfl, fk, fun hp L w _ => ?_⟩, trivial⟩
 obtain ⟨k1, k2, _⟩ := tw_of rfl rfl hp
 have h := rsum_is n s S m t U k1 k2 w
 rw [hq] at h
 exact h
theorem rsub_is (hr : twoR Dc.subD n s S m t U = r) (w : World) : Calls Tryz.prog 153 #[.agg #[.bool n, .string s, .int .i64 S], .agg #[.bool m, .string t, .int .i64 U]] w fun e w' => e = .returned (.tuple #[.agg #[.bool r.n, .string r.s, .int .i64 r.S], .int .i64 r.k]) /\ Below w.heap.size w w' := by
 obtain ⟨q, hq⟩ : ∃ q, resOf (Dc.subD (rawD n s S) (rawD m t U)) = q := ⟨_, rfl⟩
 refine tree_nv (env := twE n s S m t U q) run_rsub ?_ rfl trivial rfl rfl (tw_at _ n s S m t U Dc.subD hq hr)
 refine ⟨⟨rfl, fk, fun _ L w _ => rcheck_r n s S hs _ rfl w⟩, ⟨rfl, fk, fun _ L w _ => rcheck_r m t U ht _ rfl w⟩, ⟨rfl, fk, fun _ L w _ => ropp_any m t U w⟩, ⟨rfl, fk, fun hp L w _ => ?_⟩, trivial⟩
 obtain ⟨k1, k2, _, h2⟩ := tw_of rfl rfl hp
 have h := rsum_is n s S (oppN m t) t U k1 (okB_ok (opp_okB k2)) w
 rw [<- opp_raw k2, show Dc.addD (rawD n s S) (Dc.opp (rawD m t U)) = Dc.subD (rawD n s S) (rawD m t U) from rfl, hq] at h
 exact h
end

theorem rless_ord (r : Bool) (X Y : Nat) (hr : decide (X < Y) = r) (s t : ByteArray) (hs : s.size <= 120) (ht : t.size <= 120) (h1 : Digs s) (h2 : Digs t) (hX : Dc.val (bts s) = X) (hY : Dc.val (bts t) = Y) (w : World) : Calls Tryz.prog 88 #[.string s, .string t] w fun e w' => e = .returned (.bool r) /\ Below w.heap.size w w' := by
 refine (rless_any s t (by omega) (by omega) h1 h2 w).mono ?_
 rintro e w' ⟨rfl, rfl⟩
 subst hX; subst hY
 exact ⟨by rw [hr], Below.refl _ _⟩
def cmA (b : Bool) (i : Nat) : V := .agg [.bool b, xs (i + 1), xi (i + 2)]
def cmN : List CallX := [⟨39, [deV 1], [], xi 7⟩, ⟨39, [deV 4], [], xi 8⟩]
def cmNo1 : Fx := [(.eq (.at 7) (.int 0), false)]
def cmNo2 : Fx := [(.eq (.at 7) (.int 0), true), (.eq (.at 8) (.int 0), false)]
def cmC (b c : Bool) : List CallX := [⟨39, [cmA b 1], [], it 0⟩, ⟨39, [cmA c 4], [], it 0⟩, ⟨87, [cmA b 1, cmA c 4], [], .tup [xs 9, xs 10, xi 11]⟩, ⟨88, [xs 9, xs 10], [], xb 12⟩]
def cmL (b : Bool) : Tree := .node (.beq (.at 12) (.tt b)) (.leaf (.tup [it 1, it 0])) (.leaf (.tup [it (-1), it 0]))
def cmT (b c : Bool) : Tree := bif b == c then .node (.seq (.at 2) (.at 5)) (.node (.eq (.at 3) (.at 6)) (.leaf (.tup [it 0, it 0])) (cmL b)) (cmL b) else .leaf (.tup [it (bif b then -1 else 1), it 0])
theorem run_cmpNo1 : chk (runTr Tryz.prog nG (fun _ => none) (fun _ => true) deT cmN 100 45 [deV 1, deV 4] hN) (.leaf (.tup [it 0, it 2])) cmNo1 = true := by decide +kernel
theorem run_cmpNo2 : chk (runTr Tryz.prog nG (fun _ => none) (fun _ => true) deT cmN 100 45 [deV 1, deV 4] hN) (.leaf (.tup [it 0, it 2])) cmNo2 = true := by decide +kernel
theorem run_cmp : ∀ b c : Bool, chk (runTr Tryz.prog nG (fun _ => none) (fun _ => true) deT (cmC b c) 100 45 [cmA b 1, cmA c 4] hN) (cmT b c) [] = true := by decide +kernel
def cmE (n : Bool) (s : ByteArray) (S : Int) (m : Bool) (t : ByteArray) (U : Int) : List Value := [.bool n, .string s, .int .i64 S, .bool m, .string t, .int .i64 U, .int .i64 (ckI n s S), .int .i64 (ckI m t U), .string (zf s (max S.toNat U.toNat - S.toNat)), .string (zf t (max S.toNat U.toNat - U.toNat)), .int .i64 ((max S.toNat U.toNat : Nat) : Int),
 .bool (decide (Dc.val (bts s) * 10 ^ (max S.toNat U.toNat - S.toNat) < Dc.val (bts t) * 10 ^ (max S.toNat U.toNat - U.toNat)))]
section
variable (n : Bool) (s : ByteArray) (S : Int) (m : Bool) (t : ByteArray) (U : Int)
theorem cmN_ok (hs : s.size <= 1000000) (ht : t.size <= 1000000) : AllX Tryz.prog (envE (.int .i64 0 :: cmE n s S m t U)) (fun _ => True) cmN :=
 ⟨⟨rfl, fk, fun _ L w _ => rcheck_r n s S hs _ rfl w⟩, ⟨rfl, fk, fun _ L w _ => rcheck_r m t U ht _ rfl w⟩, trivial⟩
theorem rCmp_no (hs : s.size <= 1000000) (ht : t.size <= 1000000) (h : ¬ (okB n s S = true /\ okB m t U = true)) (w : World) : Calls Tryz.prog 45 #[.agg #[.bool n, .string s, .int .i64 S], .agg #[.bool m, .string t, .int .i64 U]] w fun e w' => e = .returned (.tuple #[.int .i64 0, .int .i64 2]) /\ Below w.heap.size w w' := by
 cases h1 : okB n s S with
 | false => exact tree_none (env := cmE n s S m t U) run_cmpNo1 (cmN_ok n s S m t U hs ht) rfl ⟨by show decide (ckI n s S = 0) = false; rw [ck_no h1]; rfl, trivial⟩ rfl
 | true =>
  cases h2 : okB m t U with
  | false => exact tree_none (env := cmE n s S m t U) run_cmpNo2 (cmN_ok n s S m t U hs ht) rfl ⟨by show decide (ckI n s S = 0) = true; rw [ck_yes h1]; rfl, by show decide (ckI m t U = 0) = false; rw [ck_no h2]; rfl, trivial⟩ rfl
  | true => exact absurd ⟨h1, h2⟩ h
theorem cmC_ok (k1 : OkD n s S) (k2 : OkD m t U) (h1 : okB n s S = true) (h2 : okB m t U = true) : AllX Tryz.prog (envE (.int .i64 0 :: cmE n s S m t U)) (fun _ => True) (cmC n m) := by
 have e1 : ((S.toNat : Nat) : Int) = S := Int.toNat_of_nonneg k1.low
 have e2 : ((U.toNat : Nat) : Int) = U := Int.toNat_of_nonneg k2.low
 have hS : S.toNat <= 60 := by have := k1.high; omega
 have hU : U.toNat <= 60 := by have := k2.high; omega
 have hsm : ∀ w : World, Calls Tryz.prog 87 #[.agg #[.bool n, .string s, .int .i64 S], .agg #[.bool m, .string t, .int .i64 U]] w fun e w' => e = .returned (.tuple #[.string (zf s (max S.toNat U.toNat - S.toNat)), .string (zf t (max S.toNat U.toNat - U.toNat)), .int .i64 ((max S.toNat U.toNat : Nat) : Int)]) /\ Below w.heap.size w w' := fun w => by
  have q := rsame_any n s S.toNat m t U.toNat _ rfl k1.size k2.size hS hU w
  rw [e1, e2] at q
  exact q
 have l1 := zf_size s (max S.toNat U.toNat - S.toNat)
 have l2 := zf_size t (max S.toNat U.toNat - U.toNat)
 have z1 := k1.size
 have z2 := k2.size
 exact ⟨⟨rfl, fk, fun _ L w _ => rcheck_r n s S (by omega) _ (ck_yes h1) w⟩, ⟨rfl, fk, fun _ L w _ => rcheck_r m t U (by omega) _ (ck_yes h2) w⟩,
  ⟨rfl, fk, fun _ L w _ => hsm w⟩,
  ⟨rfl, fk, fun _ L w _ => rless_ord _ _ _ rfl _ _ (by omega) (by omega) (zf_digs k1.dig _) (zf_digs k2.dig _) (zf_val _ _) (zf_val _ _) w⟩, trivial⟩
theorem cmT_at (k1 : OkD n s S) (k2 : OkD m t U) : ((cmT n m).at (envE (.int .i64 0 :: cmE n s S m t U))).den L0 (envE (.int .i64 0 :: cmE n s S m t U)) = .tuple #[.int .i64 (Dc.cmpD (rawD n s S) (rawD m t U)), .int .i64 0] := by
 have hl : ∀ b : Bool, ((cmL b).at (envE (.int .i64 0 :: cmE n s S m t U))).den L0 (envE (.int .i64 0 :: cmE n s S m t U)) = .tuple #[.int .i64 (bif decide (Dc.val (bts s) * 10 ^ (max S.toNat U.toNat - S.toNat) < Dc.val (bts t) * 10 ^ (max S.toNat U.toNat - U.toNat)) == b then 1 else -1), .int .i64 0] := fun b => by
  have e : (cmL b).at (envE (.int .i64 0 :: cmE n s S m t U)) = bif decide (Dc.val (bts s) * 10 ^ (max S.toNat U.toNat - S.toNat) < Dc.val (bts t) * 10 ^ (max S.toNat U.toNat - U.toNat)) == b then .tup [it 1, it 0] else .tup [it (-1), it 0] := rfl
  rw [e]
  cases (decide (Dc.val (bts s) * 10 ^ (max S.toNat U.toNat - S.toNat) < Dc.val (bts t) * 10 ^ (max S.toNat U.toNat - U.toNat)) == b) <;> rfl
 have he : n = m -> ((cmT n m).at (envE (.int .i64 0 :: cmE n s S m t U))).den L0 (envE (.int .i64 0 :: cmE n s S m t U)) = if s = t /\ S = U then .tuple #[.int .i64 0, .int .i64 0] else ((cmL n).at (envE (.int .i64 0 :: cmE n s S m t U))).den L0 (envE (.int .i64 0 :: cmE n s S m t U)) := fun h => by
  subst h
  unfold cmT
  rw [beq_self_eq_true, cond_true]
  have e : ∀ a b : Tree, (Tree.node (.seq (.at 2) (.at 5)) a b).at (envE (.int .i64 0 :: cmE n s S n t U)) = bif decide (s = t) then a.at (envE (.int .i64 0 :: cmE n s S n t U)) else b.at (envE (.int .i64 0 :: cmE n s S n t U)) := fun _ _ => rfl
  have e3 : ∀ a b : Tree, (Tree.node (.eq (.at 3) (.at 6)) a b).at (envE (.int .i64 0 :: cmE n s S n t U)) = bif decide (S = U) then a.at (envE (.int .i64 0 :: cmE n s S n t U)) else b.at (envE (.int .i64 0 :: cmE n s S n t U)) := fun _ _ => rfl
  rw [e, e3]
  by_cases h1 : s = t
  ·rw [decide_eq_true h1, cond_true]
   by_cases h2 : S = U
   ·rw [decide_eq_true h2, cond_true, if_pos ⟨h1, h2⟩]; rfl
   ·rw [decide_eq_false h2, cond_false, if_neg (fun q => h2 q.2)]
  ·rw [decide_eq_false h1, cond_false, if_neg (fun q => h1 q.1)]
 have c0 : ¬ (n = m /\ s = t /\ S = U) -> Dc.cmpD (rawD n s S) (rawD m t U) ≠ 0 := fun hn h => hn (by
  have h := Dc.cmpD_eq k1.can k2.can h
  have e1 : n = m := congrArg (·.1) h
  have e2 : Dc.val (bts s) = Dc.val (bts t) := congrArg (·.2.1) h
  have e3 : S.toNat = U.toNat := congrArg (·.2.2) h
  refine ⟨e1, bts_inj (by rw [k1.eq, k2.eq, e2]), ?_⟩
  have := k1.low; have := k2.low; omega)
 by_cases hnm : n = m
 ·subst hnm
  rw [he rfl]
  by_cases hq : s = t /\ S = U
  ·rw [if_pos hq]
   obtain ⟨rfl, rfl⟩ := hq
   rw [Dc.cmpD_self]
  ·rw [if_neg hq, hl]
   have c1 := c0 (fun h => hq h.2)
   cases n
   ·rw [show Dc.cmpD (rawD false s S) (rawD false t U) = _ from Dc.cmpD_pos _ _ _ _ rfl rfl rfl] at c1 ⊢
    unfold Dc.ord at c1 ⊢
    by_cases hlt : Dc.val (bts s) * 10 ^ (max S.toNat U.toNat - S.toNat) < Dc.val (bts t) * 10 ^ (max S.toNat U.toNat - U.toNat)
    ·rw [if_pos hlt, decide_eq_true hlt]; rfl
    ·rw [if_neg hlt] at c1 ⊢
     split at c1
     ·rename_i hgt; rw [if_pos hgt, decide_eq_false hlt]; rfl
     ·exact absurd rfl c1
   ·rw [show Dc.cmpD (rawD true s S) (rawD true t U) = _ from Dc.cmpD_neg _ _ _ _ rfl rfl rfl] at c1 ⊢
    unfold Dc.ord at c1 ⊢
    by_cases hlt : Dc.val (bts s) * 10 ^ (max S.toNat U.toNat - S.toNat) < Dc.val (bts t) * 10 ^ (max S.toNat U.toNat - U.toNat)
    ·rw [if_pos hlt, decide_eq_true hlt]; rfl
    ·rw [if_neg hlt] at c1 ⊢
     split at c1
     ·rename_i hgt; rw [if_pos hgt, decide_eq_false hlt]; rfl
     ·exact absurd rfl c1
 ·cases n <;> cases m
  ·exact absurd rfl hnm
  ·rw [Dc.cmpD_pn k1.can k2.can rfl rfl]; rfl
  ·rw [Dc.cmpD_np k1.can k2.can rfl rfl]; rfl
  ·exact absurd rfl hnm
theorem rcmp_is (hs : s.size <= 1000000) (ht : t.size <= 1000000) (z k : Int) (hr : cmpR n s S m t U = (z, k)) (w : World) : Calls Tryz.prog 45 #[.agg #[.bool n, .string s, .int .i64 S], .agg #[.bool m, .string t, .int .i64 U]] w fun e w' => e = .returned (.tuple #[.int .i64 z, .int .i64 k]) /\ Below w.heap.size w w' := by
 unfold cmpR at hr
 by_cases h : okB n s S = true /\ okB m t U = true
 ·rw [if_pos h] at hr; cases hr
  have q := tree_none (env := cmE n s S m t U) (run_cmp n m) (cmC_ok n s S m t U (okB_ok h.1) (okB_ok h.2) h.1 h.2) rfl trivial rfl (w := w)
  rw [cmT_at n s S m t U (okB_ok h.1) (okB_ok h.2)] at q
  exact q
 ·rw [if_neg h] at hr; cases hr
  exact rCmp_no n s S m t U hs ht h w
end
set_option maxRecDepth 1000000
def dvT : Tree := .node (.eq (.at 7) (.int 0)) (.node (.eq (.at 8) (.int 0)) (.node (.seq (.at 5) (.str [48])) (.leaf (noV 2)) (.node (.lt (.at 10) (.int 0)) (.leaf (noV 2)) (.node (.lt (.int 60) (.at 10)) (.leaf (noV 2)) (.node (.beq (.at 1) (.at 4)) (.leaf (rsV 16)) (.leaf (rsV 20)))))) (.leaf (noV 2))) (.leaf (noV 2))
def dvP : Fx := [(.eq (.at 7) (.int 0), true), (.eq (.at 8) (.int 0), true), (.seq (.at 5) (.str [48]), false), (.lt (.at 10) (.int 0), false), (.lt (.int 60) (.at 10), false)]
theorem dv_at {E : Nat -> Value} {n m : Bool} {s t : ByteArray} {S U K : Int} {r1 r2 : Res} (g : E 1 = .bool n /\ E 4 = .bool m /\ E 5 = .string t /\ E 7 = .int .i64 (ckI n s S) /\ E 8 = .int .i64 (ckI m t U) /\ E 10 = .int .i64 K) (h1 : ResAt E 16 r1) (h2 : ResAt E 20 r2)
  (e1 : 0 <= K -> K <= 60 -> okB n s S = true -> okB m t U = true -> resOf (Dc.can false (Dc.quo (rawD n s S) (rawD m t U) K.toNat) K.toNat) = r1) (e2 : 0 <= K -> K <= 60 -> okB n s S = true -> okB m t U = true -> resOf (Dc.can true (Dc.quo (rawD n s S) (rawD m t U) K.toNat) K.toNat) = r2) {r : Res} (hr : divR n s S m t U K = r) : (dvT.at E).den L0 E = r.val := by
 obtain ⟨g1, g4, g5, g7, g8, g10⟩ := g
 have e : dvT.at E = bif decide (ckI n s S = 0) then bif decide (ckI m t U = 0) then bif decide (t = Ex.bytes [48]) then noV 2 else bif decide (K < 0) then noV 2 else bif decide (60 < K) then noV 2 else bif n == m then rsV 16 else rsV 20 else noV 2 else noV 2 := by
  simp only [dvT, Tree.at, X.evB, X.evI, X.evS, g1, g4, g5, g7, g8, g10]
 rw [e, ck_zero, ck_zero, eq48, <- hr]
 unfold divR
 cases k1 : okB n s S
 ·rfl
 cases k2 : okB m t U
 ·rfl
 by_cases c1 : bts t = [48]
 ·rw [decide_eq_true c1, if_neg (fun h => h.2.2.1 c1)]; rfl
 by_cases c2 : K < 0
 ·rw [decide_eq_false c1, decide_eq_true c2, if_neg (fun h => absurd h.2.2.2.1 (by omega))]; rfl
 by_cases c3 : 60 < K
 ·rw [decide_eq_false c1, decide_eq_false c2, decide_eq_true c3, if_neg (fun h => absurd h.2.2.2.2 (by omega))]; rfl
 rw [decide_eq_false c1, decide_eq_false c2, decide_eq_false c3, if_pos ⟨rfl, rfl, c1, by omega, by omega⟩]
 show (bif n == m then rsV 16 else rsV 20).den L0 E = (resOf (Dc.can (n != m) (Dc.quo (rawD n s S) (rawD m t U) K.toNat) K.toNat)).val
 have q1 := e1 (by omega) (by omega) k1 k2
 have q2 := e2 (by omega) (by omega) k1 k2
 cases n <;> cases m <;> first | (rw [show (_ != _) = false from rfl, q1]; exact h1.den) | (rw [show (_ != _) = true from rfl, q2]; exact h2.den)
theorem dv_of {n m : Bool} {s t : ByteArray} {S U K a b : Int} (ha : a = ckI n s S) (hb : b = ckI m t U) (h : decide (a = 0) = true /\ decide (b = 0) = true /\ decide (t = Ex.bytes [48]) = false /\ decide (K < 0) = false /\ decide (60 < K) = false /\ True) : OkD n s S /\ OkD m t U /\ 0 < Dc.val (bts t) /\ 0 <= K /\ K <= 60 := by
 obtain ⟨h1, h2, h3, h4, h5, _⟩ := h
 obtain ⟨k1, k2, _⟩ := tw_of ha hb ⟨h1, h2, trivial⟩
 rw [eq48] at h3
 have h3 := of_decide_eq_false h3
 exact ⟨k1, k2, Nat.pos_of_ne_zero fun h0 => h3 (by rw [k2.eq, h0]; rfl), by have := of_decide_eq_false h4; omega, by have := of_decide_eq_false h5; omega⟩
def quV (s t : ByteArray) (a b c : Nat) : Nat := Dc.val (bts s) * 10 ^ (a + c) / (Dc.val (bts t) * 10 ^ b)
theorem quo_is (n m : Bool) (s t : ByteArray) (S U K : Int) : Dc.quo (rawD n s S) (rawD m t U) K.toNat = quV s t (max S.toNat U.toNat - S.toNat) (max S.toNat U.toNat - U.toNat) K.toNat := rfl
theorem quV_low {n : Bool} {s t : ByteArray} {S : Int} {a b c : Nat} (k : OkD n s S) (ha : a <= 60) (hc : c <= 60) : quV s t a b c < 10 ^ 180 := by
 have h3 := Dc.val_lt k.dig.all
 rw [bts_length] at h3
 have h4 : Dc.val (bts s) * 10 ^ (a + c) < 10 ^ 60 * 10 ^ 120 := Nat.mul_lt_mul_of_lt_of_le (Nat.lt_of_lt_of_le h3 (Nat.pow_le_pow_right (by decide) k.size)) (Nat.pow_le_pow_right (by decide) (by omega)) (Dc.pow10_pos _)
 rw [<- Nat.pow_add] at h4
 exact Nat.lt_of_le_of_lt (Nat.div_le_self _ _) h4
def rvC : List CallX := [⟨39, [deV 1], [], xi 7⟩, ⟨39, [deV 4], [], xi 8⟩, ⟨87, [deV 1, deV 4], twP, .tup [xs 9, xs 12, xi 13]⟩, ⟨69, [xi 10], [(.lt (.at 10) (.int 0), false), (.lt (.int 60) (.at 10), false)], xs 14⟩, ⟨177, [.xs (.cat (.at 9) (.at 14)), xs 12], dvP, .tup [xs 11, xs 15]⟩,
 ⟨98, [.bool false, xs 11, xi 10], dvP, rsV 16⟩, ⟨98, [.bool true, xs 11, xi 10], dvP, rsV 20⟩]
theorem run_rdiv : chk (runTr Tryz.prog nG (fun _ => none) (fun _ => true) deT rvC 100 152 [deV 1, deV 4, xi 10] hN) dvT [(.fits (.at 9) (.at 14), true)] = true := by decide +kernel
def lowN (S : Int) : Nat := min S.toNat 60
theorem lowN_eq {S : Int} (h0 : 0 <= S) (h : S <= 60) : ((lowN S : Nat) : Int) = S := by unfold lowN; omega
theorem lowN_le (S : Int) : lowN S <= 60 := by unfold lowN; omega
theorem rdiv_is (n : Bool) (s : ByteArray) (S : Int) (m : Bool) (t : ByteArray) (U : Int) (K : Int) (hs : s.size <= 1000000) (ht : t.size <= 1000000) (r : Res) (hr : divR n s S m t U K = r) (w : World) : Calls Tryz.prog 152 #[.agg #[.bool n, .string s, .int .i64 S], .agg #[.bool m, .string t, .int .i64 U], .int .i64 K] w fun e w' => e = .returned (.tuple #[.agg #[.bool r.n, .string r.s, .int .i64 r.S], .int .i64 r.k]) /\ Below w.heap.size w w' := by
 have l1 := lowN_le S; have l2 := lowN_le U; have l3 := lowN_le K
 obtain ⟨y, hy⟩ : ∃ y, zf s (max (lowN S) (lowN U) - lowN S) = y := ⟨_, rfl⟩
 obtain ⟨z, hz⟩ : ∃ z, zf t (max (lowN S) (lowN U) - lowN U) = z := ⟨_, rfl⟩
 obtain ⟨q, hq⟩ : ∃ q, quV s t (max (lowN S) (lowN U) - lowN S) (max (lowN S) (lowN U) - lowN U) (lowN K) = q := ⟨_, rfl⟩
 obtain ⟨p, hp'⟩ : ∃ p, str (Dc.digs q) = p := ⟨_, rfl⟩
 obtain ⟨o, ho⟩ : ∃ o, str (Dc.digs (Dc.val (bts (zf y (lowN K))) % Dc.val (bts z))) = o := ⟨_, rfl⟩
 obtain ⟨r1, g1⟩ : ∃ r, resOf (Dc.can false q (lowN K)) = r := ⟨_, rfl⟩
 obtain ⟨r2, g2⟩ : ∃ r, resOf (Dc.can true q (lowN K)) = r := ⟨_, rfl⟩
 have sy := zf_size s (max (lowN S) (lowN U) - lowN S)
 have sz := zf_size t (max (lowN S) (lowN U) - lowN U)
 rw [hy] at sy; rw [hz] at sz
 have eN : ∀ {S : Int}, 0 <= S -> S <= 60 -> S.toNat = lowN S := fun h0 h1 => by have := lowN_eq h0 h1; omega
 have back : 0 <= K -> K <= 60 -> okB n s S = true -> okB m t U = true -> Dc.quo (rawD n s S) (rawD m t U) K.toNat = q /\ K.toNat = lowN K := fun a b c d => by
  have k1 := okB_ok c; have k2 := okB_ok d
  rw [quo_is, eN a b, eN k1.low k1.high, eN k2.low k2.high]
  exact ⟨hq, rfl⟩
 refine tree_nv (env := .append [.bool n, .string s, .int .i64 S, .bool m, .string t, .int .i64 U, .int .i64 (ckI n s S), .int .i64 (ckI m t U), .string y, .int .i64 K, .string p, .string z, .int .i64 ((max (lowN S) (lowN U) : Nat) : Int), .string (zs (lowN K)), .string o] (resC r1 (resL r2))) run_rdiv ?_ rfl ⟨decide_eq_true ?_, trivial⟩ rfl rfl
  (dv_at (n := n) (m := m) (s := s) (t := t) (S := S) (U := U) (K := K) (r1 := r1) (r2 := r2) ⟨rfl, rfl, rfl, rfl, rfl, rfl⟩ ⟨rfl, rfl, rfl, rfl⟩ ⟨rfl, rfl, rfl, rfl⟩ (fun a b c d => by rw [(back a b c d).1, (back a b c d).2]; exact g1) (fun a b c d => by rw [(back a b c d).1, (back a b c d).2]; exact g2) hr) (w := w)
 ·refine ⟨⟨rfl, fk, fun _ L w _ => rcheck_r n s S hs _ rfl w⟩, ⟨rfl, fk, fun _ L w _ => rcheck_r m t U ht _ rfl w⟩, ⟨rfl, fk, fun hp L w _ => ?_⟩, ⟨rfl, fk, fun hp L w _ => ?_⟩, ⟨rfl, fk, fun hp L w _ => ?_⟩, ⟨rfl, fk, fun hp L w _ => ?_⟩, ⟨rfl, fk, fun hp L w _ => ?_⟩, trivial⟩
  ·obtain ⟨k1, k2, _⟩ := tw_of rfl rfl hp
   have h := rsame_any n s (lowN S) m t (lowN U) _ rfl k1.size k2.size l1 l2 w
   rw [lowN_eq k1.low k1.high, lowN_eq k2.low k2.high, hy, hz] at h
   exact h
  ·have h1 := of_decide_eq_false (show decide (K < 0) = false from hp.1)
   have h2 := of_decide_eq_false (show decide (60 < K) = false from hp.2.1)
   exact rzeros_v K (lowN K) (lowN_eq (by omega) (by omega)).symm (by omega) w
  ·obtain ⟨k1, k2, hv, c1, c2⟩ := dv_of (n := n) (m := m) (s := s) (t := t) (S := S) (U := U) (K := K) rfl rfl hp
   have dy := zf_digs k1.dig (max (lowN S) (lowN U) - lowN S)
   have dz := zf_digs k2.dig (max (lowN S) (lowN U) - lowN U)
   have vy := zf_val s (max (lowN S) (lowN U) - lowN S)
   have vz := zf_val t (max (lowN S) (lowN U) - lowN U)
   rw [hy] at dy vy; rw [hz] at dz vz
   have a1 := k1.size; have a2 := k2.size
   refine (rover_any (zf y (lowN K)) z (by rw [zf_size]; omega) (by omega) (zf_digs dy _) dz (by rw [vz]; exact Nat.mul_pos hv (Dc.pow10_pos _)) w).mono ?_
   rintro e w' ⟨⟨q', r', rfl, rfl, rfl⟩, hb⟩
   rw [ho, zf_val, vy, vz, Nat.mul_assoc, <- Nat.pow_add]
   refine ⟨?_, hb⟩
   show Ending.returned (.tuple #[.string (str (Dc.digs (quV s t _ _ (lowN K)))), _]) = .returned (.tuple #[.string p, .string o])
   rw [hq, hp']
  ·obtain ⟨k1, k2, hv, c1, c2⟩ := dv_of (n := n) (m := m) (s := s) (t := t) (S := S) (U := U) (K := K) rfl rfl hp
   have h := rmade_v false q (lowN K) (Nat.lt_trans (by rw [<- hq]; exact quV_low k1 (by omega) l3) (by decide +kernel)) (by omega) hp' g1 w
   rw [lowN_eq c1 c2] at h
   exact h
  ·obtain ⟨k1, k2, hv, c1, c2⟩ := dv_of (n := n) (m := m) (s := s) (t := t) (S := S) (U := U) (K := K) rfl rfl hp
   have h := rmade_v true q (lowN K) (Nat.lt_trans (by rw [<- hq]; exact quV_low k1 (by omega) l3) (by decide +kernel)) (by omega) hp' g2 w
   rw [lowN_eq c1 c2] at h
   exact h
 ·show y.size + (zs _).size <= _
  rw [zs_size]; omega
set_option maxRecDepth 1000000

theorem pof_is (neg : Bool) (s : ByteArray) (S : Nat) (hs : s.size <= 1000) (hS : S <= 1000) (hd : (bts s).all Dc.dig = true) (r : Res) (hr : resOf (Dc.can neg (Dc.val (bts s)) S) = r) (w : World) : Calls Tryz.prog 171 #[.bool neg, .string s, .int .i64 (S : Int)] w fun e w' => e = .returned (.tuple #[.agg #[.bool r.n, .string r.s, .int .i64 r.S], .int .i64 r.k]) /\ Below w.heap.size w w' :=
 (pof_any neg s S hs hS hd w).mono fun _ _ ⟨he, hb⟩ => ⟨he.trans (made_is hr), hb⟩
theorem lt_top {x k : Nat} (h : x < 10 ^ k) (hk : k <= 216) : x < top := by
 rw [top_pow]; exact Nat.lt_of_lt_of_le h (Nat.pow_le_pow_right (by decide) hk)
def numGo : Nat -> Nat -> List Nat
 | 0, _ => []
 | k + 1, x => x % 1000000000 :: numGo k (x / 1000000000)
theorem numGo_len : ∀ k x, (numGo k x).length = k
 | 0, _ => rfl
 | k + 1, x => by rw [numGo, List.length_cons, numGo_len]
theorem numGo_low : ∀ k x, ∀ d ∈ numGo k x, d < 1000000000
 | 0, _, d, h => by cases h
 | k + 1, x, d, h => by
  rcases List.mem_cons.1 h with rfl | h
  ·exact Nat.mod_lt _ (by decide)
  ·exact numGo_low k _ d h
theorem numGo_val : ∀ k x, x < 1000000000 ^ k -> Dc.valB (numGo k x) = x
 | 0, x, h => by rw [Nat.pow_zero] at h; show 0 = x; omega
 | k + 1, x, h => by
  rw [numGo, Dc.valB, numGo_val k _ (Nat.div_lt_of_lt_mul (by rw [Nat.pow_succ] at h; rw [Nat.mul_comm]; exact h))]
  omega
theorem numGo_of : ∀ (l : List Nat), (∀ d ∈ l, d < 1000000000) -> numGo l.length (Dc.valB l) = l
 | [], _ => rfl
 | d :: l, h => by
  have hd := h d (List.mem_cons_self ..)
  have e1 : (d + 1000000000 * Dc.valB l) % 1000000000 = d := by omega
  have e2 : (d + 1000000000 * Dc.valB l) / 1000000000 = Dc.valB l := by omega
  rw [Dc.valB, List.length_cons, numGo, e1, e2, numGo_of l fun d hd => h d (List.mem_cons_of_mem _ hd)]
def numL (x : Nat) : List Nat := numGo 24 x
theorem numL_num (x : Nat) : Num (numL x) := ⟨numGo_len 24 x, numGo_low 24 x⟩
theorem numL_val {x : Nat} (h : x < top) : Dc.valB (numL x) = x := numGo_val 24 x h
theorem numL_of {l : List Nat} (h : Num l) : l = numL (Dc.valB l) := by
 have q := numGo_of l h.low
 rw [h.len] at q
 exact q.symm
def NumIs (l : List Nat) (x : Nat) : Prop := Num l /\ Dc.valB l = x
theorem num_call {f : FuncId} {a : Array Value} {w : World} {x : Nat} {l : List Nat} (hl : NumIs l x) (h : Calls Tryz.prog f a w fun e w' => (∃ O : List Nat, e = .returned (.agg (numV O)) /\ Num O /\ Dc.valB O = x) /\ Below w.heap.size w w') : Calls Tryz.prog f a w fun e w' => e = .returned (.agg (numV l)) /\ Below w.heap.size w w' := by
 refine h.mono ?_
 rintro e w' ⟨⟨O, rfl, hn, hv⟩, hb⟩
 refine ⟨?_, hb⟩
 rw [numL_of hn, numL_of hl.1, hv, hl.2]
theorem num_some {x : Nat} (h : x < top) : ∃ l, NumIs l x := ⟨_, numL_num x, numL_val h⟩
def nuV (b : Nat) : V := .agg ((List.range 24).map fun i => .xi .u32 (.at (b + i)))
def numC (l : List Nat) : List Value := l.map fun n : Nat => .int .u32 (n : Int)
theorem nu_den {E : Nat -> Value} {b : Nat} {l : List Nat} (hl : l.length = 24) (h : ∀ i, i < 24 -> E (b + i) = .int .u32 (l.getD i 0 : Nat)) (L : Ex.Loc) : (nuV b).den L E = .agg (numV l) := by
 have key : ∀ (c : List Nat), V.dens L E (c.map fun i => .xi .u32 (.at (b + i))) = c.map fun i => .int .u32 (X.evI E (.at (b + i))) := by
  intro c
  induction c with
  | nil => rfl
  | cons i c ih => rw [List.map_cons, V.dens, ih, List.map_cons, V.den]
 show Value.agg (V.dens L E _).toArray = _
 rw [key]
 unfold numV
 congr 2
 apply List.ext_getElem
 ·rw [List.length_map, List.length_map, List.length_range, hl]
 ·intro i h1 h2
  rw [List.length_map, List.length_range] at h1
  rw [List.getElem_map, List.getElem_map, List.getElem_range, X.evI, h i h1]
  simp only [List.getD_eq_getElem?_getD, List.getElem?_eq_getElem (show i < l.length by omega), Option.getD_some]
theorem num_at {x : Value} {pre post : List Value} {b : Nat} {l : List Nat} (hl : l.length = 24) (hb : b = pre.length + 1) (i : Nat) (hi : i < 24) : envE (x :: (pre ++ (numC l ++ post))) (b + i) = .int .u32 (l.getD i 0 : Nat) := by
 subst hb
 have hi' : i < l.length := by omega
 unfold envE numC
 rw [show pre.length + 1 + i = (pre.length + i) + 1 by omega, List.getD_eq_getElem?_getD, List.getElem?_cons_succ, List.getElem?_append_right (by omega), show pre.length + i - pre.length = i by omega, List.getElem?_append_left (by rw [List.length_map]; exact hi'), List.getElem?_map]
 simp only [List.getD_eq_getElem?_getD, List.getElem?_eq_getElem hi', Option.map_some, Option.getD_some]
theorem numC_one (l : List Nat) : (numC l).all Value.oneCell' = true := by
 unfold numC
 rw [List.all_map, List.all_eq_true]
 intro n _; rfl
theorem call1 {f : FuncId} {a b : Value} {w : World} {Q : Ending -> World -> Prop} (h : a = b) (q : Calls Tryz.prog f #[b] w Q) : Calls Tryz.prog f #[a] w Q := by subst h; exact q
theorem call2 {f : FuncId} {a b a' b' : Value} {w : World} {Q : Ending -> World -> Prop} (h : a = b) (h' : a' = b') (q : Calls Tryz.prog f #[b, b'] w Q) : Calls Tryz.prog f #[a, a'] w Q := by subst h; subst h'; exact q
theorem call3 {f : FuncId} {a b a' b' c c' : Value} {w : World} {Q : Ending -> World -> Prop} (h : a = b) (h' : a' = b') (h'' : c = c') (q : Calls Tryz.prog f #[b, b', c'] w Q) : Calls Tryz.prog f #[a, a', c] w Q := by subst h; subst h'; subst h''; exact q
theorem callR {f : FuncId} {a : Array Value} {u v : Value} {w : World} (h : u = v) (q : Calls Tryz.prog f a w fun e w' => e = .returned v /\ Below w.heap.size w w') : Calls Tryz.prog f a w fun e w' => e = .returned u /\ Below w.heap.size w w' := by subst h; exact q
theorem pdigits_v {l : List Nat} {x : Nat} (hl : NumIs l x) {u : ByteArray} (hu : str (Dc.digs x) = u) (w : World) (hP : Pow w) : Calls Tryz.prog 172 #[.agg (numV l)] w fun e w' => e = .returned (.string u) /\ Below w.heap.size w w' := by
 refine (pdigits_any l hl.1 w hP).mono ?_
 rintro e w' ⟨⟨t, rfl, ht⟩, hb⟩
 rw [hl.2] at ht
 exact ⟨by rw [<- hu, <- ht, str_bts], hb⟩
theorem pof_v (neg : Bool) (x S : Nat) (hx : x < 10 ^ 200) (hS : S <= 1000) {u : ByteArray} (hu : str (Dc.digs x) = u) {r : Res} (hr : resOf (Dc.can neg x S) = r) (w : World) : Calls Tryz.prog 171 #[.bool neg, .string u, .int .i64 (S : Int)] w fun e w' => e = .returned r.val /\ Below w.heap.size w w' := by
 subst hu
 exact pof_is neg (str (Dc.digs x)) S (Nat.le_trans (digs_size (bts_digs x) hx (by decide)) (by decide)) hS (digs_all (bts_digs x)) r (by rw [val_of (bts_digs x)]; exact hr) w
theorem prun_opp : chk (runTr Tryz.prog nG (fun _ => none) (fun _ => true) deT [] 100 175 [deV 1] hN) opT [] = true := by decide +kernel
theorem popp_any (n : Bool) (s : ByteArray) (S : Int) (w : World) : Calls Tryz.prog 175 #[.agg #[.bool n, .string s, .int .i64 S]] w fun e w' => e = .returned (.agg #[.bool (oppN n s), .string s, .int .i64 S]) /\ Below w.heap.size w w' :=
 tree_nv (env := [.bool n, .string s, .int .i64 S]) prun_opp trivial rfl trivial rfl rfl (op_at n s S)
def puC : List CallX := [⟨83, [deV 1, .xi .i64 mxX], [], nuV 23⟩, ⟨83, [deV 4, .xi .i64 mxX], [], nuV 47⟩, ⟨84, [nuV 23, nuV 47], [], xi 7⟩, ⟨193, [nuV 23, nuV 47], [], nuV 71⟩, ⟨190, [nuV 47, nuV 23], [(.lt (.at 7) (.int 0), true)], nuV 95⟩, ⟨190, [nuV 23, nuV 47], [(.lt (.at 7) (.int 0), false)], nuV 119⟩,
 ⟨172, [nuV 71], [], xs 8⟩, ⟨172, [nuV 95], [], xs 9⟩, ⟨172, [nuV 119], [], xs 10⟩, ⟨171, [xb 1, xs 8, .xi .i64 mxX], [], rsV 11⟩, ⟨171, [xb 4, xs 9, .xi .i64 mxX], [], rsV 15⟩, ⟨171, [xb 1, xs 10, .xi .i64 mxX], [], rsV 19⟩]
theorem run_psum : chk (runTr Tryz.prog nG (fun _ => none) gd moT puC 100 174 [deV 1, deV 4] h0) (sumT (.lt (.at 7) (.int 0)) 11) [] = true := by decide +kernel
theorem cmpI_lt (a b : Nat) : decide (cmpI a b < 0) = decide (a < b) := by
 unfold cmpI
 by_cases h : a < b
 ·rw [if_pos h, decide_eq_true h]; rfl
 ·rw [if_neg h, decide_eq_false h]; split <;> rfl
theorem psum_is (n : Bool) (s : ByteArray) (S : Int) (m : Bool) (t : ByteArray) (U : Int) (k1 : OkD n s S) (k2 : OkD m t U) (w : World) {M : Int} (hV : Vars M w) : Calls Tryz.prog 174 #[.agg #[.bool n, .string s, .int .i64 S], .agg #[.bool m, .string t, .int .i64 U]] w fun e w' => e = .returned (resOf (Dc.addD (rawD n s S) (rawD m t U))).val /\ Below w.heap.size w w' := by
 obtain ⟨T, rfl⟩ : ∃ T : Nat, S = T := ⟨S.toNat, by have := k1.low; omega⟩
 obtain ⟨V, rfl⟩ : ∃ V : Nat, U = V := ⟨U.toNat, by have := k2.low; omega⟩
 have hT : T <= 60 := by have := k1.high; omega
 have hV0 : V <= 60 := by have := k2.high; omega
 obtain ⟨K, hK⟩ : ∃ K, max T V = K := ⟨_, rfl⟩
 have mx : (if (T : Int) < (V : Int) then (V : Int) else (T : Int)) = (K : Int) := by rw [mx_nat, hK]
 obtain ⟨A, hA⟩ : ∃ A, Dc.val (bts s) * 10 ^ (K - T) = A := ⟨_, rfl⟩
 obtain ⟨B, hB⟩ : ∃ B, Dc.val (bts t) * 10 ^ (K - V) = B := ⟨_, rfl⟩
 have lA : A < 10 ^ 120 := by rw [<- hA]; exact scaled_low k1.size k1.dig.all (by omega)
 have lB : B < 10 ^ 120 := by rw [<- hB]; exact scaled_low k2.size k2.dig.all (by omega)
 have l0 : (10 : Nat) ^ 120 + 10 ^ 120 <= 10 ^ 200 := by decide +kernel
 have lP : A + B < 10 ^ 200 := by omega
 obtain ⟨a, ha⟩ := num_some (lt_top lA (by decide))
 obtain ⟨b, hb⟩ := num_some (lt_top lB (by decide))
 obtain ⟨p, hp⟩ := num_some (lt_top lP (by decide))
 obtain ⟨c, hc⟩ := num_some (x := B - A) (lt_top (k := 200) (by omega) (by decide))
 obtain ⟨d, hd⟩ := num_some (x := A - B) (lt_top (k := 200) (by omega) (by decide))
 obtain ⟨x1, h1⟩ : ∃ x, str (Dc.digs (A + B)) = x := ⟨_, rfl⟩
 obtain ⟨x2, h2⟩ : ∃ x, str (Dc.digs (B - A)) = x := ⟨_, rfl⟩
 obtain ⟨x3, h3⟩ : ∃ x, str (Dc.digs (A - B)) = x := ⟨_, rfl⟩
 obtain ⟨r1, g1⟩ : ∃ r, resOf (Dc.can n (A + B) K) = r := ⟨_, rfl⟩
 obtain ⟨r2, g2⟩ : ∃ r, resOf (Dc.can m (B - A) K) = r := ⟨_, rfl⟩
 obtain ⟨r3, g3⟩ : ∃ r, resOf (Dc.can n (A - B) K) = r := ⟨_, rfl⟩
 obtain ⟨z, hz⟩ : ∃ z, cmpI A B = z := ⟨_, rfl⟩
 have hlt : decide (z < 0) = decide (A < B) := by rw [<- hz, cmpI_lt]
 obtain ⟨pre, hpre⟩ : ∃ l : List Value, l = .append [.bool n, .string s, .int .i64 (T : Int), .bool m, .string t, .int .i64 (V : Int), .int .i64 z, .string x1, .string x2, .string x3] (resC r1 (resC r2 (resL r3))) := ⟨_, rfl⟩
 have hpl : pre.length = 22 := by rw [hpre]; rfl
 have n1 := nu_den ha.1.len (num_at (x := .int .i64 M) (pre := pre) (post := numC b ++ (numC p ++ (numC c ++ numC d))) (b := 23) ha.1.len (by rw [hpl]))
 have n2 := nu_den hb.1.len (num_at (x := .int .i64 M) (pre := pre ++ numC a) (post := numC p ++ (numC c ++ numC d)) (b := 47) hb.1.len (by simp [hpl, numC, ha.1.len]))
 have n3 := nu_den hp.1.len (num_at (x := .int .i64 M) (pre := pre ++ numC a ++ numC b) (post := numC c ++ numC d) (b := 71) hp.1.len (by simp [hpl, numC, ha.1.len, hb.1.len]))
 have n4 := nu_den hc.1.len (num_at (x := .int .i64 M) (pre := pre ++ numC a ++ numC b ++ numC p) (post := numC d) (b := 95) hc.1.len (by simp [hpl, numC, ha.1.len, hb.1.len, hp.1.len]))
 have n5 := nu_den hd.1.len (num_at (x := .int .i64 M) (pre := pre ++ numC a ++ numC b ++ numC p ++ numC c) (post := []) (b := 119) hd.1.len (by simp [hpl, numC, ha.1.len, hb.1.len, hp.1.len, hc.1.len]))
 simp only [List.append_assoc, List.append_nil] at n1 n2 n3 n4 n5
 obtain ⟨post, hpost⟩ : ∃ l, numC a ++ (numC b ++ (numC p ++ (numC c ++ numC d))) = l := ⟨_, rfl⟩
 have hone : post.all Value.oneCell' = true := by rw [<- hpost]; simp only [List.all_append, numC_one, Bool.and_self]
 rw [hpost] at n1 n2 n3 n4 n5
 subst hpre
 refine tree_rv (env := .append [.bool n, .string s, .int .i64 (T : Int), .bool m, .string t, .int .i64 (V : Int), .int .i64 z, .string x1, .string x2, .string x3] (resC r1 (resC r2 (List.append (resL r3) post)))) run_psum ?_ hone trivial rfl rfl (sum_at (n := n) (m := m) (A := A) (B := B) rfl rfl hlt hK hA hB (r1 := r1) (r2 := r2) (r3 := r3) ⟨rfl, rfl, rfl, rfl⟩ ⟨rfl, rfl, rfl, rfl⟩ ⟨rfl, rfl, rfl, rfl⟩ g1.symm g2.symm g3.symm rfl) hV
 have z1 := k1.size; have z2 := k2.size
 refine ⟨⟨rfl, fk, fun _ L w hV => ?_⟩, ⟨rfl, fk, fun _ L w hV => ?_⟩, ⟨rfl, fk, fun _ L w hV => ?_⟩, ⟨rfl, fk, fun _ L w hV => ?_⟩, ⟨rfl, fk, fun hp' L w hV => ?_⟩, ⟨rfl, fk, fun hp' L w hV => ?_⟩, ⟨rfl, fk, fun _ L w hV => ?_⟩, ⟨rfl, fk, fun _ L w hV => ?_⟩, ⟨rfl, fk, fun _ L w hV => ?_⟩, ⟨rfl, fk, fun _ L w hV => ?_⟩, ⟨rfl, fk, fun _ L w hV => ?_⟩, ⟨rfl, fk, fun _ L w hV => ?_⟩, trivial⟩
 ·exact callR (n1 L) (call2 rfl (congrArg (Value.int .i64) mx) (num_call ha (hA ▸ pscaled_any n s T K z1 k1.dig.all (by omega) (by omega) w)))
 ·exact callR (n2 L) (call2 rfl (congrArg (Value.int .i64) mx) (num_call hb (hB ▸ pscaled_any m t V K z2 k2.dig.all (by omega) (by omega) w)))
 ·have h := pcmp_any a b ha.1 hb.1 w
  rw [ha.2, hb.2, hz] at h
  exact call2 (n1 L) (n2 L) h
 ·have h := pplus_any a b ha.1 hb.1 w
  rw [ha.2, hb.2, Nat.mod_eq_of_lt (lt_top lP (by decide))] at h
  exact callR (n3 L) (call2 (n1 L) (n2 L) (num_call hp h))
 ·have q := of_decide_eq_true (hlt.symm.trans (show decide (z < 0) = true from hp'.1))
  have h := pminus_any b a hb.1 ha.1 (by rw [ha.2, hb.2]; omega) w
  rw [ha.2, hb.2] at h
  exact callR (n4 L) (call2 (n2 L) (n1 L) (num_call hc h))
 ·have q := of_decide_eq_false (hlt.symm.trans (show decide (z < 0) = false from hp'.1))
  have h := pminus_any a b ha.1 hb.1 (by rw [ha.2, hb.2]; omega) w
  rw [ha.2, hb.2] at h
  exact callR (n5 L) (call2 (n1 L) (n2 L) (num_call hd h))
 ·exact call1 (n3 L) (pdigits_v hp h1 w hV.pow)
 ·exact call1 (n4 L) (pdigits_v hc h2 w hV.pow)
 ·exact call1 (n5 L) (pdigits_v hd h3 w hV.pow)
 ·exact call3 rfl rfl (congrArg (Value.int .i64) mx) (pof_v n (A + B) K lP (by omega) h1 g1 w)
 ·exact call3 rfl rfl (congrArg (Value.int .i64) mx) (pof_v m (B - A) K (by omega) (by omega) h2 g2 w)
 ·exact call3 rfl rfl (congrArg (Value.int .i64) mx) (pof_v n (A - B) K (by omega) (by omega) h3 g3 w)
set_option maxRecDepth 1000000

theorem pcheck_r (n : Bool) (s : ByteArray) (S : Int) (hs : s.size <= 1000000) (r : Int) (hr : ckI n s S = r) (w : World) : Calls Tryz.prog 34 #[.agg #[.bool n, .string s, .int .i64 S]] w fun e w' => e = .returned (.int .i64 r) /\ Below w.heap.size w w' := by
 rw [<- hr]; exact pcheck_any n s S (by omega) w
theorem run_padd : chk (runTr Tryz.prog nG (fun _ => none) gd moT (raC 34 174) 100 150 [deV 1, deV 4] h0) twT [] = true := by decide +kernel
theorem run_psub : chk (runTr Tryz.prog nG (fun _ => none) gd moT (rbC 34 174 175) 100 149 [deV 1, deV 4] h0) twT [] = true := by decide +kernel
section
variable (n : Bool) (s : ByteArray) (S : Int) (m : Bool) (t : ByteArray) (U : Int) (hs : s.size <= 1000000) (ht : t.size <= 1000000) (r : Res)
include hs ht
theorem padd_is (hr : twoR Dc.addD n s S m t U = r) (w : World) {M : Int} (hV : Vars M w) : Calls Tryz.prog 150 #[.agg #[.bool n, .string s, .int .i64 S], .agg #[.bool m, .string t, .int .i64 U]] w fun e w' => e = .returned (.tuple #[.agg #[.bool r.n, .string r.s, .int .i64 r.S], .int .i64 r.k]) /\ Below w.heap.size w w' := by
 obtain ⟨q, hq⟩ : ∃ q, resOf (Dc.addD (rawD n s S) (rawD m t U)) = q := ⟨_, rfl⟩
 refine tree_rv (env := twE n s S m t U q) run_padd ?_ rfl trivial rfl rfl (tw_at _ n s S m t U Dc.addD hq hr) hV
 refine ⟨⟨rfl, fk, fun _ L w _ => pcheck_r n s S hs _ rfl w⟩, ⟨rfl, fk, fun _ L w _ => pcheck_r m t U ht _ rfl w⟩, ⟨rfl, fk, fun hp L w hV => ?_⟩, trivial⟩
 obtain ⟨k1, k2, _⟩ := tw_of rfl rfl hp
 have h := psum_is n s S m t U k1 k2 w hV
 rw [hq] at h
 exact h
theorem psub_is (hr : twoR Dc.subD n s S m t U = r) (w : World) {M : Int} (hV : Vars M w) : Calls Tryz.prog 149 #[.agg #[.bool n, .string s, .int .i64 S], .agg #[.bool m, .string t, .int .i64 U]] w fun e w' => e = .returned (.tuple #[.agg #[.bool r.n, .string r.s, .int .i64 r.S], .int .i64 r.k]) /\ Below w.heap.size w w' := by
 obtain ⟨q, hq⟩ : ∃ q, resOf (Dc.subD (rawD n s S) (rawD m t U)) = q := ⟨_, rfl⟩
 refine tree_rv (env := twE n s S m t U q) run_psub ?_ rfl trivial rfl rfl (tw_at _ n s S m t U Dc.subD hq hr) hV
 refine ⟨⟨rfl, fk, fun _ L w _ => pcheck_r n s S hs _ rfl w⟩, ⟨rfl, fk, fun _ L w _ => pcheck_r m t U ht _ rfl w⟩, ⟨rfl, fk, fun _ L w _ => popp_any m t U w⟩, ⟨rfl, fk, fun hp L w hV => ?_⟩, trivial⟩
 obtain ⟨k1, k2, _, h2⟩ := tw_of rfl rfl hp
 have h := psum_is n s S (oppN m t) t U k1 (okB_ok (opp_okB k2)) w hV
 rw [<- opp_raw k2, show Dc.addD (rawD n s S) (Dc.opp (rawD m t U)) = Dc.subD (rawD n s S) (rawD m t U) from rfl, hq] at h
 exact h
end
end Go.Proofs.YthoojcdjjecogaaGreatDoor
namespace Go.Proofs.YthoojcdjjecogaaGreatDoor
open Go Go.RowKit

structure Good (w : World) : Prop where
 pow : Pow w
 mx : ∃ m : Int, w.cell? ⟨2, 0, none⟩ = some (.int .i64 m)
theorem Good.next {w w' : World} (h : Good w) (hb : Below w.heap.size w w') : Good w' := by
 refine ⟨h.pow.keep hb, ?_⟩
 obtain ⟨m, hm⟩ := h.mx
 have hlt := World.block_lt_of_cell? w _ hm
 exact ⟨m, (hb.cell (p := ⟨2, 0, none⟩) hlt).trans hm⟩
theorem prefix1 (l : List UInt8) (c : UInt8) : Lib.hasPrefix l [c] = decide ((l.map UInt8.toNat).head? = some c.toNat) := by
 cases l with
 | nil => rfl
 | cons b r =>
  unfold Lib.hasPrefix
  rw [Bool.eq_iff_iff]
  simp [List.isPrefixOf]
  constructor
  ·intro h; rw [h]
  ·intro h; exact (UInt8.toNat_inj.1 h).symm
theorem pref_any (s : ByteArray) (c : UInt8) (r : Bool) (h : decide ((bts s).head? = some c.toNat) = r) (w : World) : Calls Tryz.prog 122 #[.string s, .string ⟨#[c]⟩] w fun e w' => e = .returned (.bool r) /\ w = w' := by
 refine (Tryz.strings_HasPrefix s ⟨#[c]⟩ w).mono ?_
 rintro e w' ⟨rfl, hw⟩
 refine ⟨?_, hw.symm⟩
 have e1 : Lib.hasPrefix s.data.toList [c] = r := by rw [prefix1]; exact h
 rw [<- e1]
theorem cut_cons (b : UInt8) (l : List UInt8) (h : b ≠ 46) : (Lib.cut (b :: l) [46]).1 = b :: (Lib.cut l [46]).1 /\ (Lib.cut (b :: l) [46]).2.1 = (Lib.cut l [46]).2.1 := by
 have hp : ([46] : List UInt8).isPrefixOf (b :: l) = false := by simp [List.isPrefixOf]; exact fun e => h e.symm
 have hg := Lib.index_ge l [46]
 have hi0 : Lib.index (b :: l) [46] = if Lib.index l [46] == -1 then -1 else Lib.index l [46] + 1 := by rw [Lib.index, hp]; rfl
 unfold Lib.cut
 rw [hi0]
 by_cases hi : Lib.index l [46] = -1
 ·rw [hi]; exact ⟨rfl, rfl⟩
 ·obtain ⟨k, hk⟩ : ∃ k : Nat, Lib.index l [46] = k := ⟨(Lib.index l [46]).toNat, by omega⟩
  rw [hk]
  have e : ((k : Int) == -1) = false := beq_eq_false_iff_ne.2 (by omega)
  rw [e]
  simp only [Bool.false_eq_true, if_false]
  rw [if_pos (by omega), if_pos (by omega), show ((k : Int) + 1).toNat = k + 1 by omega, Int.toNat_natCast]
  exact ⟨rfl, rfl⟩
theorem cut_dot : ∀ l : List UInt8, (Lib.cut l [46]).1.map UInt8.toNat = Dc.whole (l.map UInt8.toNat) /\ (Lib.cut l [46]).2.1.map UInt8.toNat = Dc.part (l.map UInt8.toNat)
 | [] => ⟨rfl, rfl⟩
 | b :: l => by
  by_cases hb : b = 46
  ·subst hb
   have : Lib.index (46 :: l) [46] = 0 := by rw [Lib.index]; rfl
   unfold Lib.cut
   rw [this]
   exact ⟨rfl, rfl⟩
  ·obtain ⟨h1, h2⟩ := cut_cons b l hb
   obtain ⟨i1, i2⟩ := cut_dot l
   have hn : b.toNat ≠ 46 := fun e => hb (UInt8.toNat_inj.1 e)
   rw [h1, h2, List.map_cons, List.map_cons, i1, i2]
   unfold Dc.whole Dc.part
   rw [List.takeWhile_cons, List.dropWhile_cons, decide_eq_true hn]
   exact ⟨rfl, rfl⟩
theorem Vars.good {m : Int} {w : World} (h : Vars m w) : Good w := by
 obtain ⟨lo, hi, h0, _⟩ := h.row0
 exact ⟨h.pow, m, by simp [World.cell?, h0]⟩
end Go.Proofs.YthoojcdjjecogaaGreatDoor
namespace Go.Proofs.YthoojcdjjecogaaGreatDoor
open Go.ChangeShapes Go.WideShapes Go.ChangeAt Go.ChangeMaps Go.RowKit

theorem ownN : ownKnob Tryz.prog.godebug = none := by kernel_rfl
theorem gPow : Tryz.prog.globalNamed "internal/strconv.uint64pow10" = some 5 := by kernel_rfl
theorem tPow : (Tryz.prog.globals[5]?).map (·.type) = some 200 := by kernel_rfl

theorem gRng : Tryz.prog.globalNamed "gabarit/chars.ranges" = some 1 := by kernel_rfl
theorem tRng : (Tryz.prog.globals[1]?).map (·.type) = some 165 := by kernel_rfl
theorem gLen : Tryz.prog.globalNamed "gabarit/moment.lengths" = some 0 := by kernel_rfl
theorem tLen : (Tryz.prog.globals[0]?).map (·.type) = some 144 := by kernel_rfl

noncomputable def laidWorld (os : Os) : World := (World.doorLaid Tryz.prog 88 os).layVars Tryz.prog [("unicode/utf8.first", Rows.laid_unicode_utf8_first)]

theorem laid_met (os : Os) (args : Array Value) : laidMet Tryz.prog Rows.lexicalLawsRow.laid ((laidWorld os).forCall (fun _ _ => 0) ⟨#[], args, []⟩).memory :=
 laidMet_layVars (w0 := World.doorLaid Tryz.prog 88 os) ["unicode/utf8.first"] ((List.range (World.doorLaid Tryz.prog 88 os).heap.size).filter fun i => i != 3) (by kernel_rfl) (by kernel_rfl) (by kernel_rfl)
  (LaidIn.of_run _ 8 (by kernel_rfl) (by kernel_rfl) (by kernel_rfl) (by kernel_rfl))

theorem good_of_laid {W : World} (h : laidMetH Tryz.prog Rows.lexicalLawsRow.laid W) (hsh : W.ShapedOpen Tryz.prog) : Good W := by
 rw [MakeChecks.laidMetH_plain _ _ _ (by kernel_rfl)] at h
 obtain ⟨ps, hl, _, _⟩ := h
 obtain ⟨_, _, _, _, _, _, _, _, _, _, hl, _⟩ := hl
 obtain ⟨_, _, _, _, _, _, _, _, _, _, hl, _⟩ := hl
 obtain ⟨g2, t2, cs2, f2, p2, q2, hg2, ht2, hv2, hd2, hl, _⟩ := hl
 refine ⟨?_, ?_⟩
 ·obtain rfl := Option.some.inj (gPow.symm.trans hg2)
  obtain rfl := Option.some.inj (tPow.symm.trans ht2)
  unfold Pow Lib.TabIs
  rw [hv2, <- Lib.cells_of_tab (k := .u64) (zs := Lib.pow10Tab) Tryz.underlying200 Tryz.underlying158 (by kernel_rfl) (by kernel_rfl) hd2]
 ·exact cell_of_shapedOpen_int (zero := #[.int .i64 0]) (t := 3) hsh (of_decide_eq_true (by kernel_rfl)) (by kernel_rfl) rfl (by kernel_rfl) (by kernel_rfl) Tryz.underlying3

theorem lens_of_laid {W : World} (h : laidMetH Tryz.prog Rows.lexicalLawsRow.laid W) : W.var? Tryz.prog "gabarit/moment.lengths" = some monthLens.toArray := by
 rw [MakeChecks.laidMetH_plain _ _ _ (by kernel_rfl)] at h
 obtain ⟨ps, hl, _, _⟩ := h
 obtain ⟨_, _, _, _, _, _, _, _, _, _, hl, _⟩ := hl
 obtain ⟨_, _, _, _, _, _, _, _, _, _, hl, _⟩ := hl
 obtain ⟨_, _, _, _, _, _, _, _, _, _, hl, _⟩ := hl
 obtain ⟨_, _, _, _, _, _, _, _, _, _, hl, _⟩ := hl
 obtain ⟨_, _, _, _, _, _, _, _, _, _, hl, _⟩ := hl
 obtain ⟨_, _, _, _, _, _, _, _, _, _, hl, _⟩ := hl
 obtain ⟨_, _, _, _, _, _, _, _, _, _, hl, _⟩ := hl
 obtain ⟨g2, t2, cs2, f2, p2, q2, hg2, ht2, hv2, hd2, hl, _⟩ := hl
 obtain rfl := Option.some.inj (gLen.symm.trans hg2)
 obtain rfl := Option.some.inj (tLen.symm.trans ht2)
 unfold monthLens
 rw [hv2, <- Lib.cells_of_tab (k := .i64) (zs := [31, 28, 31, 30, 31, 30, 31, 31, 30, 31, 30, 31]) Tryz.underlying144 Tryz.underlying3 (by kernel_rfl) (by kernel_rfl) hd2]
theorem pair_cells {H : Type} {enc : TypeId × Value -> H} {w : World} {base : Nat} {sp : Nat -> Bool} {held : Bool} {fuel : Nat} {cs : List Value} {a b : Int} {x : DataW H × List MemPlace} (h : DataW.trod enc Tryz.prog w base sp held fuel 164 cs = some x) (hx : x.1 = .agg [.lit (.int .i32 a), .lit (.int .i32 b)]) : cs = [.int .i32 a, .int .i32 b] := by
 obtain ⟨y, p⟩ := x
 simp only at hx
 subst hx
 exact Lib.cells_of_tab (k := .i32) (zs := [a, b]) Tryz.underlying164 Tryz.underlying21 (by kernel_rfl) (by kernel_rfl) h
theorem rng_cells {H : Type} {enc : TypeId × Value -> H} {w : World} {base : Nat} {sp : Nat -> Bool} {held : Bool} {fuel : Nat} {cs : List Value} {p : List MemPlace} (h : DataW.trod enc Tryz.prog w base sp held fuel 165 cs = some (Rows.laid_gabarit_chars_ranges, p)) : cs = rngVals := by
 have c1 : Tryz.prog.cellsOf 165 = 12 := by kernel_rfl
 have c2 : Tryz.prog.cellsOf 164 = 2 := by kernel_rfl
 obtain ⟨xs, m, _, ex, hlen, hl, hel⟩ := DataW.trod_array Tryz.underlying165 h
 rw [c1] at hlen
 match cs, hlen with
 | [a0, a1, a2, a3, a4, a5, a6, a7, a8, a9, b0, b1], _ =>
  match xs, hl with
  | [x0, x1, x2, x3, x4, x5], _ =>
   have e3 := DataW.agg.inj (Prod.mk.inj ex).1
   simp only [List.map_cons, List.map_nil, List.cons.injEq, and_true] at e3
   obtain ⟨e0, e1, e2, e3, e4, e5⟩ := e3
   have k0 := hel 0 (by omega); have k1 := hel 1 (by omega); have k2 := hel 2 (by omega)
   have k3 := hel 3 (by omega); have k4 := hel 4 (by omega); have k5 := hel 5 (by omega)
   rw [c2] at k0 k1 k2 k3 k4 k5
   have f0 := pair_cells k0 e0.symm
   have f1 := pair_cells k1 e1.symm
   have f2 := pair_cells k2 e2.symm
   have f3 := pair_cells k3 e3.symm
   have f4 := pair_cells k4 e4.symm
   have f5 := pair_cells k5 e5.symm
   simp only [Nat.reduceMul, List.drop_zero, List.drop_succ_cons, List.take_succ_cons, List.take_zero, List.cons.injEq, and_true] at f0 f1 f2 f3 f4 f5
   obtain ⟨rfl, rfl⟩ := f0
   obtain ⟨rfl, rfl⟩ := f1
   obtain ⟨rfl, rfl⟩ := f2
   obtain ⟨rfl, rfl⟩ := f3
   obtain ⟨rfl, rfl⟩ := f4
   obtain ⟨rfl, rfl⟩ := f5
   rfl
theorem rng_of_laid {W : World} (h : laidMetH Tryz.prog Rows.lexicalLawsRow.laid W) : W.var? Tryz.prog "gabarit/chars.ranges" = some rngVals.toArray := by
 rw [MakeChecks.laidMetH_plain _ _ _ (by kernel_rfl)] at h
 obtain ⟨ps, hl, _, _⟩ := h
 obtain ⟨_, _, _, _, _, _, _, _, _, _, hl, _⟩ := hl
 obtain ⟨_, _, _, _, _, _, _, _, _, _, hl, _⟩ := hl
 obtain ⟨_, _, _, _, _, _, _, _, _, _, hl, _⟩ := hl
 obtain ⟨_, _, _, _, _, _, _, _, _, _, hl, _⟩ := hl
 obtain ⟨_, _, _, _, _, _, _, _, _, _, hl, _⟩ := hl
 obtain ⟨_, _, _, _, _, _, _, _, _, _, hl, _⟩ := hl
 obtain ⟨g2, t2, cs2, f2, p2, q2, hg2, ht2, hv2, hd2, hl, _⟩ := hl
 obtain rfl := Option.some.inj (gRng.symm.trans hg2)
 obtain rfl := Option.some.inj (tRng.symm.trans ht2)
 rw [hv2, <- rng_cells hd2]
theorem vars_of_laid {W : World} (h : laidMetH Tryz.prog Rows.lexicalLawsRow.laid W) (hsh : W.ShapedOpen Tryz.prog) : ∃ M, Vars M W := by
 have hG := good_of_laid h hsh
 have hl := lens_of_laid h
 have hr := rng_of_laid h
 obtain ⟨m, hm⟩ := hG.mx
 have hp := hG.pow
 refine ⟨m, ?_, ?_, ?_, ?_⟩
 ·obtain ⟨cs, hw, hz, _⟩ := hsh.1 2 #[.int .i64 0] 3 (of_decide_eq_true (by kernel_rfl)) (by kernel_rfl)
  refine ⟨0, 0, ?_, .inl (Nat.le_refl _)⟩
  rw [hw]
  unfold World.cell? at hm
  rw [hw] at hm
  obtain ⟨l⟩ := cs
  match l, hz, hm with
  | [x], _, hm =>
   simp at hm
   rw [hm]
 ·obtain ⟨cs, hw, _, _⟩ := hsh.1 5 (Array.replicate 20 (.int .u64 0)) 200 (of_decide_eq_true (by kernel_rfl)) (by kernel_rfl)
  refine ⟨0, 0, ?_, .inl (Nat.le_refl _)⟩
  unfold Pow Lib.TabIs World.var? at hp
  rw [gPow, Option.bind_some, hw] at hp
  rw [hw]
  simp only [Option.some.injEq] at hp
  rw [hp]
 ·obtain ⟨cs, hw, _, _⟩ := hsh.1 0 (Array.replicate 12 (.int .i64 0)) 144 (of_decide_eq_true (by kernel_rfl)) (by kernel_rfl)
  refine ⟨0, 0, ?_, .inl (Nat.le_refl _)⟩
  unfold World.var? at hl
  rw [gLen, Option.bind_some, hw] at hl
  rw [hw]
  simp only [Option.some.injEq] at hl
  rw [hl]
 ·obtain ⟨cs, hw, _, _⟩ := hsh.1 1 (Array.replicate 12 (.int .i32 0)) 165 (of_decide_eq_true (by kernel_rfl)) (by kernel_rfl)
  refine ⟨0, 0, ?_, .inl (Nat.le_refl _)⟩
  unfold World.var? at hr
  rw [gRng, Option.bind_some, hw] at hr
  rw [hw]
  simp only [Option.some.injEq] at hr
  rw [hr]

section
variable {H : Type} {enc : TypeId × Value -> H} {P : Program}
theorem trodAll_below (hl : laidOutB P = true) {W W' : World} (hb : Below W.heap.size W W') : ∀ (ts : List TypeId) (vs : List Value) (ds : List (DataW H)) (ps : List MemPlace), (∀ t ∈ ts, P.readableRec t = true /\ t < P.types.size) ->
  DataW.TrodAll enc P W 0 (fun _ => true) true ts vs ds ps -> (∀ x ∈ ps, x.block < W.heap.size) -> DataW.TrodAll enc P W' 0 (fun b => decide (b < W.heap.size)) true ts vs ds ps
 | [], [], [], _, _, h, _ => h
 | [], [], _ :: _, _, _, h, _ => h.elim
 | [], _ :: _, _, _, _, h, _ => h.elim
 | _ :: _, [], _, _, _, h, _ => h.elim
 | _ :: _, _ :: _, [], _, _, h, _ => h.elim
 | t :: ts, v :: vs, d :: ds, ps, hr, h, hlt => by
  obtain ⟨p, q, h0, h1, rfl⟩ := h
  obtain ⟨r0, r1⟩ := hr t (List.mem_cons_self ..)
  exact ⟨p, q, Below.trod hl r0 r1 h0 hb (fun x hx => hlt x (by simp [hx])), trodAll_below hl hb ts vs ds q (fun u hu => hr u (List.mem_cons_of_mem _ hu)) h1 (fun x hx => hlt x (by simp [hx])), rfl⟩
theorem post_law (hl : laidOutB P = true) {f : Func} {s : ChangeSpec} {apart fresh handsOn : Bool} {W W' : World} {args : Array Value} {ds gs : List (DataW H)} {before : List MemPlace} {tb : TypeId}
  (hbool : P.underlying tb = some .bool) (hres : f.resultTypes = #[tb]) (hpar : ∀ t ∈ f.params.toList, P.readableRec t = true /\ t < P.types.size) (hvars : s.vars = [])
  (hfn : s.fn H ds = { results := [.lit (.bool true)], args := ds }) (hW : DataW.Whole enc P f.params.toList s.vars apart W args.toList ds gs before) (hb : Below W.heap.size W W') :
  s.post enc P f apart fresh handsOn false W args (.bool true) W' := by
 have hlt : ∀ x ∈ before, x.block < W.heap.size := fun x hx => hW.lt x hx
 have hW' := hW
 obtain ⟨p, q, hA, hV, rfl, _, _⟩ := hW
 rw [hvars] at hV
 have hgs : gs = [] /\ q = [] := by
  cases gs with
  | nil => exact ⟨rfl, hV⟩
  | cons _ _ => exact hV.elim
 obtain ⟨rfl, rfl⟩ := hgs
 refine ⟨ds, [], p ++ [], [], p, [], hW', ?_, ?_, ?_, hb.frame _, fun h => by cases h⟩
 ·rw [List.append_nil, hfn, hres]
  exact trodAll_mk1 (shut_bool hbool _)
 ·rw [List.append_nil, hfn]
  exact trodAll_below hl hb _ _ _ _ hpar hA (fun x hx => hlt x (by simp [hx]))
 ·rw [List.append_nil, hfn, hvars]
  rfl
end
set_option maxRecDepth 100000
theorem decCells : Tryz.prog.cellsOf 24 = 3 := by kernel_rfl
theorem boolCells : Tryz.prog.cellsOf 4 = 1 := by kernel_rfl
theorem strCellsN : Tryz.prog.cellsOf 9 = 1 := by kernel_rfl
theorem intCells : Tryz.prog.cellsOf 3 = 1 := by kernel_rfl
theorem momCells : Tryz.prog.cellsOf 26 = 11 := by kernel_rfl
end Go.Proofs.YthoojcdjjecogaaGreatDoor
namespace Go.Proofs.YthoojcdjjecogaaGreatDoor
open Go Go.RowKit
namespace Lx
def isZ (c : Nat) : Bool := decide (c = 48)
def backZ (l : List Nat) : List Nat := (l.reverse.dropWhile isZ).reverse
def frontZ (l : List Nat) : List Nat := l.dropWhile isZ
theorem all_isZ {l : List Nat} (h : ∀ c ∈ l, isZ c = true) : l = List.replicate l.length 48 := List.eq_replicate_iff.2 ⟨rfl, fun c hc => of_decide_eq_true (h c hc)⟩
theorem frontZ_eq (l : List Nat) : ∃ k, l = List.replicate k 48 ++ frontZ l := by
 refine ⟨(l.takeWhile isZ).length, ?_⟩
 rw [<- all_isZ (fun c hc => List.all_eq_true.1 List.all_takeWhile c hc)]
 exact (List.takeWhile_append_dropWhile).symm
theorem frontZ_head (l : List Nat) : (frontZ l).head? ≠ some 48 := by
 induction l with
 | nil => intro h; cases h
 | cons a l ih =>
  unfold frontZ at ih ⊢
  rw [List.dropWhile_cons]
  split
  ·exact ih
  ·rename_i h
   intro e
   exact h (by cases e; rfl)
theorem backZ_eq (l : List Nat) : ∃ k, l = backZ l ++ List.replicate k 48 := by
 obtain ⟨k, hk⟩ := frontZ_eq l.reverse
 refine ⟨k, ?_⟩
 have := congrArg List.reverse hk
 rw [List.reverse_reverse, List.reverse_append, List.reverse_replicate] at this
 exact this
theorem backZ_last (l : List Nat) : (backZ l).getLast? ≠ some 48 := by
 unfold backZ
 rw [List.getLast?_reverse]
 exact frontZ_head l.reverse
theorem dig_append {l m : List Nat} : (l ++ m).all Dc.dig = true ↔ l.all Dc.dig = true /\ m.all Dc.dig = true := by rw [List.all_append, Bool.and_eq_true]
theorem last_val {l : List Nat} (hd : l.all Dc.dig = true) (hne : l ≠ []) : l.getLast? = some (48 + Dc.val l % 10) := by
 obtain ⟨m, c, rfl⟩ : ∃ m c, l = m ++ [c] := ⟨l.dropLast, l.getLast hne, (List.dropLast_concat_getLast hne).symm⟩
 have hc := Dc.dig_iff.1 (List.all_eq_true.1 hd c (by simp))
 rw [Dc.val_snoc, List.getLast?_concat]
 congr 1
 omega
theorem okB_form (neg : Bool) (d : List Nat) (q : Nat) (hd : d.all Dc.dig = true) (hne : d ≠ []) (hh : d.head? ≠ some 48) (hl : q = 0 \/ d.getLast? ≠ some 48) : okB neg (str d) (q : Int) = (decide (d.length <= 60) && decide (q <= 60)) := by
 have hb : bts (str d) = d := bts_str d fun c hc => by have := Dc.dig_iff.1 (List.all_eq_true.1 hd c hc); omega
 have h48 : d ≠ [48] := fun e => hh (by rw [e]; rfl)
 have hlen : d.length ≠ 0 := fun e => hne (List.length_eq_zero_iff.1 e)
 unfold okB onlyB
 rw [hb, str_size, if_neg h48, hd, decide_eq_false hh, decide_eq_true hlen, decide_eq_true (Int.natCast_nonneg q)]
 have h2 : (decide ((q : Int) = 0) || !decide (d.getLast? = some 48)) = true := by
  rcases hl with h | h
  ·rw [h]; rfl
  ·rw [decide_eq_false h]; simp
 rw [h2, show decide ((q : Int) <= 60) = decide (q <= 60) by rw [decide_eq_decide]; omega]
 simp
theorem num_can (neg : Bool) (w p : List Nat) (hw : w.all Dc.dig = true) (hp : p.all Dc.dig = true) : resOf (Dc.can neg (Dc.val (w ++ p)) p.length) =
  if frontZ (w ++ backZ p) = [] then ⟨false, str [48], 0, 0⟩ else if okB neg (str (frontZ (w ++ backZ p))) ((backZ p).length : Int) = true then ⟨neg, str (frontZ (w ++ backZ p)), ((backZ p).length : Int), 0⟩ else ⟨false, ⟨#[]⟩, 0, 7⟩ := by
 obtain ⟨n, hn⟩ := backZ_eq p
 have hl := backZ_last p
 obtain ⟨q, hq⟩ : ∃ q, backZ p = q := ⟨_, rfl⟩
 rw [hq] at hn hl ⊢
 subst hn
 obtain ⟨hqd, _⟩ := dig_append.1 hp
 obtain ⟨k, hk⟩ := frontZ_eq (w ++ q)
 have hh := frontZ_head (w ++ q)
 obtain ⟨d, hd⟩ : ∃ d, frontZ (w ++ q) = d := ⟨_, rfl⟩
 rw [hd] at hk hh ⊢
 have hv : Dc.val (w ++ q) = Dc.val d := by rw [hk, Dc.val_zeros_front]
 have hdd : d.all Dc.dig = true := (dig_append.1 (by rw [<- hk]; exact dig_append.2 ⟨hw, hqd⟩)).2
 have hc : Dc.can neg (Dc.val (w ++ (q ++ List.replicate n 48))) (q ++ List.replicate n 48).length = Dc.can neg (Dc.val d) q.length := by
  refine Dc.can_congr neg ?_
  rw [<- List.append_assoc, Dc.val_zeros_back, hv, List.length_append, List.length_replicate, Nat.mul_assoc, <- Nat.pow_add, Nat.add_comm n]
 rw [hc]
 by_cases h0 : d = []
 ·rw [if_pos h0, h0, Dc.val_nil]
  rfl
 ·have hu : Dc.digs (Dc.val d) = d := Dc.digs_unique hdd h0 (.inl hh)
  have hv0 : Dc.val d ≠ 0 := fun e => hh (by rw [<- hu, e]; rfl)
  have hlast : q.length = 0 \/ d.getLast? ≠ some 48 := by
   rcases List.eq_nil_or_concat q with rfl | ⟨m, c, rfl⟩
   ·exact .inl rfl
   ·right
    rcases List.eq_nil_or_concat d with rfl | ⟨m', c', rfl⟩
    ·exact absurd rfl h0
    ·simp only [List.concat_eq_append] at hk hl ⊢
     have e := congrArg List.getLast? hk
     rw [<- List.append_assoc, <- List.append_assoc, List.getLast?_concat, List.getLast?_concat] at e
     cases e
     rw [List.getLast?_concat] at hl ⊢
     exact hl
  have hs : Dc.strip (Dc.val d) q.length = (Dc.val d, q.length) := by
   refine Dc.strip_done (hlast.imp id fun h e => h ?_)
   rw [last_val hdd h0, e]
  rw [if_neg h0, okB_form neg d q.length hdd h0 hh hlast]
  unfold Dc.can
  rw [if_neg hv0, hs, hu]
  by_cases h1 : d.length <= 60
  ·by_cases h2 : q.length <= 60
   ·rw [if_neg (show ¬(60 < d.length \/ 60 < q.length) by omega), if_pos (by rw [decide_eq_true h1, decide_eq_true h2]; rfl)]
    simp only [resOf, hu]
   ·rw [if_pos (show 60 < d.length \/ 60 < q.length by omega), if_neg (by rw [decide_eq_false h2, Bool.and_false]; decide)]
    rfl
  ·rw [if_pos (show 60 < d.length \/ 60 < q.length by omega), if_neg (by rw [decide_eq_false h1, Bool.false_and]; decide)]
   rfl
end Lx
end Go.Proofs.YthoojcdjjecogaaGreatDoor
namespace Go.Proofs.YthoojcdjjecogaaGreatDoor
open Go Go.RowKit Go.Ex

def leapT (a b : V) : Tree := .node (.eq (.rem (.at 1) (.int 4)) (.int 0))
 (.node (.eq (.rem (.at 1) (.int 100)) (.int 0)) (.node (.eq (.rem (.at 1) (.int 400)) (.int 0)) (.leaf a) (.leaf b)) (.leaf a))
 (.node (.eq (.rem (.at 1) (.int 400)) (.int 0)) (.leaf a) (.leaf b))
theorem leap_at {E : Nat -> Value} {y : Int} {a b : V} (h : E 1 = .int .i64 y) : (leapT a b).at E = if Mo.lg y = 1 then a else b := by
 have e : ∀ n : Int, n ≠ 0 -> (y.tmod n = 0 ↔ y % n = 0) := fun n _ => by
  rw [<- Int.dvd_iff_tmod_eq_zero, <- Int.dvd_iff_emod_eq_zero]
 have e4 := e 4 (by decide)
 have e100 := e 100 (by decide)
 have e400 := e 400 (by decide)
 simp only [leapT, Tree.at, X.evB, X.evI, h, Mo.lg]
 by_cases h4 : y.tmod 4 = 0 <;> by_cases h100 : y.tmod 100 = 0 <;> by_cases h400 : y.tmod 400 = 0 <;> simp only [h4, h100, h400, decide_true, decide_false, cond_true, cond_false] <;> (split <;> first | rfl | (exfalso; omega))
def lenT (m : Int) : Tree := if m = 2 then leapT (it 29) (it 28) else .leaf (it (if m = 4 \/ m = 6 \/ m = 9 \/ m = 11 then 30 else 31))
theorem run_len : ([1, 2, 3, 4, 5, 6, 7, 8, 9, 10, 11, 12] : List Int).all (fun m => chk (runTr Tryz.prog nG (fun _ => none) gd moT [] 100 106 [xi 1, it m] h0) (lenT m) []) = true := by decide +kernel
theorem run_rlen : ([1, 2, 3, 4, 5, 6, 7, 8, 9, 10, 11, 12] : List Int).all (fun m => chk (runTr Tryz.prog nG (fun _ => none) gd moT [] 100 75 [xi 1, it m] h0) (lenT m) []) = true := by decide +kernel
theorem len_at {E : Nat -> Value} {y m : Int} (h : E 1 = .int .i64 y) (L : Ex.Loc) : ((lenT m).at E).den L E = .int .i64 (Mo.dim y m) := by
 have := Mo.lg_01 y
 unfold lenT Mo.dim
 by_cases h2 : m = 2
 ·rw [if_pos h2, if_pos h2, leap_at h]
  split
  ·rename_i e; rw [e]; rfl
  ·rw [show Mo.lg y = 0 by omega]; rfl
 ·rw [if_neg h2, if_neg h2]; rfl
theorem month_mem {m : Int} (h1 : 1 <= m) (h2 : m <= 12) : m ∈ ([1, 2, 3, 4, 5, 6, 7, 8, 9, 10, 11, 12] : List Int) := by
 simp only [List.mem_cons, List.not_mem_nil, or_false]; omega
theorem plength_is (y m : Int) (h1 : 1 <= m) (h2 : m <= 12) (w : World) (M : Int) (hV : Vars M w) : Calls Tryz.prog 106 #[.int .i64 y, .int .i64 m] w fun e w' => e = .returned (.int .i64 (Mo.dim y m)) /\ Below w.heap.size w w' := by
 have hr := List.all_eq_true.1 run_len m (month_mem h1 h2)
 have h := tree_run (env := [.int .i64 y]) hr trivial rfl trivial rfl hV
 rw [len_at rfl] at h
 exact h
theorem rlength_is (y m : Int) (h1 : 1 <= m) (h2 : m <= 12) (w : World) (M : Int) (hV : Vars M w) : Calls Tryz.prog 75 #[.int .i64 y, .int .i64 m] w fun e w' => e = .returned (.int .i64 (Mo.dim y m)) /\ Below w.heap.size w w' := by
 have hr := List.all_eq_true.1 run_rlen m (month_mem h1 h2)
 have h := tree_run (env := [.int .i64 y]) hr trivial rfl trivial rfl hV
 rw [len_at rfl] at h
 exact h
end Go.Proofs.YthoojcdjjecogaaGreatDoor
namespace Go.Proofs.YthoojcdjjecogaaGreatDoor
open Go Go.RowKit

theorem fint_any (n : Int) (h0 : -9223372036854775808 <= n) (h1 : n <= 9223372036854775807) (w : World) (hP : Pow w) : Calls Tryz.prog 127 #[.int .i64 n, .int .i64 10] w fun e w' => (∃ t : ByteArray, e = .returned (.string t) /\ t.data.toList = Lib.itoa n) /\ Below w.heap.size w w' := by
 refine (Tryz.strconv_FormatInt_10 n h0 h1 w hP).mono ?_
 rintro e w' ⟨rfl, k, os, rfl⟩
 exact ⟨⟨_, rfl, rfl⟩, Lib.below_grow _ _ (Nat.le_refl _) _ _⟩
theorem tpre_any (s : ByteArray) (l : List UInt8) (h : Lib.trimPrefix s.data.toList [45] = l) (w : World) : Calls Tryz.prog 128 #[.string s, .string ⟨#[45]⟩] w fun e w' => (∃ t : ByteArray, e = .returned (.string t) /\ t.data.toList = l) /\ w = w' :=
 (Tryz.strings_TrimPrefix s ⟨#[45]⟩ w).mono fun _ _ ⟨he, hw⟩ => ⟨⟨_, he, h⟩, hw.symm⟩
theorem dec_head (u : Nat) : ∀ r, Lib.decDigits u ≠ 45 :: r := fun r h => by
 have h1 := decDigits_digs u
 rw [h] at h1
 have := Dc.digs_dig u
 rw [<- h1] at this
 simp [Dc.dig] at this
theorem tpre_same (s : ByteArray) (h : ∀ r, s.data.toList ≠ 45 :: r) (w : World) : Calls Tryz.prog 128 #[.string s, .string ⟨#[45]⟩] w fun e w' => e = .returned (.string s) /\ w = w' := by
 refine (Tryz.strings_TrimPrefix s ⟨#[45]⟩ w).mono ?_
 rintro e w' ⟨rfl, hw⟩
 refine ⟨?_, hw.symm⟩
 have hp : Lib.hasPrefix s.data.toList [45] = false := by
  unfold Lib.hasPrefix
  cases hl : s.data.toList with
  | nil => rfl
  | cons c r =>
   have hc : (45 == c) = false := beq_eq_false_iff_ne.2 (fun e => h r (by rw [hl, e]))
   simp [List.isPrefixOf, hc]
 show Ending.returned (.string ⟨(Lib.trimPrefix s.data.toList [45]).toArray⟩) = _
 unfold Lib.trimPrefix
 rw [hp]; rfl
theorem cell3 {w : World} {g : Nat} {cs : Array Value} {t : TypeId} (h : w.heap[g]? = some (.cells cs t)) {j : Nat} {v : Value} (hv : cs[j]? = some v) : w.cell? ⟨g, j, none⟩ = some v := by simp [World.cell?, h, hv]
theorem open3 {w : World} {g : Nat} {cs : Array Value} {t : TypeId} (h : w.heap[g]? = some (.cells cs t)) (j : Nat) : w.frozen? ⟨g, j, none⟩ = false := by simp [World.frozen?, h]
theorem blk_keep {w w1 : World} {o : Obj} (hb : Below (w.alloc o).heap.size (w.alloc o) w1) : w1.heap[w.heap.size]? = some o := (hb.block _ (by simp)).trans (heap_alloc_last w o)
theorem pOf_pos (u : Nat) (h1 : (u : Int) <= 9223372036854775807) (w : World) (hP : Pow w) : Calls Tryz.prog 108 #[.int .i64 (u : Int)] w fun e w' => e = .returned (.agg #[.bool false, .string (str (Dc.digs u)), .int .i64 0]) /\ Below w.heap.size w w' := by
 have C : Hid (∀ w, Pow w -> _) := Lib.hid (fint_any (u : Int) (by omega) h1)
 have HP : Hid _ := Lib.hid hP
 clear hP
 go_enter Tryz.func108, Tryz.ntmps108
 go_wp2_with (first
  | (go_at_call 127; refine (C.out _ (HP.out.keep ((Below.refl _ w).alloc (Nat.le_refl _) _))).mono ?_; rintro e w1 ⟨⟨t, rfl, ht⟩, hb⟩; have HT : Hid _ := Lib.hid ht; have HB : Hid _ := Lib.hid hb; have k1 := blk_keep hb; have e0 := cell3 k1 (j := 0) rfl; have e1 := cell3 k1 (j := 1) rfl; have e2 := cell3 k1 (j := 2) rfl; have f0 := open3 k1 0; have f1 := open3 k1 1; have f2 := open3 k1 2; clear k1 ht hb; have HQ : Hid (bts t = Dc.digs u) := Lib.hid (by show t.data.toList.map UInt8.toNat = _; rw [HT.out, Lib.itoa_nonneg, decDigits_digs]))
  | (go_at_call 128; refine (tpre_same t (by rw [HT.out, Lib.itoa_nonneg]; exact dec_head u) _).mono ?_; rintro e w2 ⟨rfl, rfl⟩))
 refine bodyPost_ret (v := .agg #[.bool false, .string t, .int .i64 0]) (by simp [results, Tryz.results108, go_sem, e0, e1, e2]) rfl ⟨by rw [<- HQ.out, str_bts], ?_⟩
 have B0 : Below w.heap.size w (w.alloc (.cells #[.bool false, .string ⟨#[]⟩, .int .i64 0] 24)) := (Below.refl _ w).alloc (Nat.le_refl _) _
 exact (((B0.trans (HB.out.mono B0.size)).setCell (p := ⟨w.heap.size, 0, none⟩) (Nat.le_refl _) _).setCell (p := ⟨w.heap.size, 1, none⟩) (Nat.le_refl _) _).setCell (p := ⟨w.heap.size, 2, none⟩) (Nat.le_refl _) _
theorem tpre_cut (s : ByteArray) (l : List UInt8) (h : s.data.toList = 45 :: l) (w : World) : Calls Tryz.prog 128 #[.string s, .string ⟨#[45]⟩] w fun e w' => (∃ t : ByteArray, e = .returned (.string t) /\ t.data.toList = l) /\ w = w' := by
 refine tpre_any s l ?_ w
 unfold Lib.trimPrefix Lib.hasPrefix
 rw [h]
 simp [List.isPrefixOf]
theorem pOf_neg (u : Nat) (hu : 1 <= u) (h1 : (u : Int) <= 9223372036854775808) (w : World) (hP : Pow w) : Calls Tryz.prog 108 #[.int .i64 (-(u : Int))] w fun e w' => e = .returned (.agg #[.bool true, .string (str (Dc.digs u)), .int .i64 0]) /\ Below w.heap.size w w' := by
 have C : Hid (∀ w, Pow w -> _) := Lib.hid (fint_any (-(u : Int)) (by omega) (by omega))
 have HP : Hid _ := Lib.hid hP
 clear hP
 go_enter Tryz.func108, Tryz.ntmps108
 go_wp2_with (first
  | (go_at_call 127; refine (C.out _ (HP.out.keep ((Below.refl _ w).alloc (Nat.le_refl _) _))).mono ?_; rintro e w1 ⟨⟨t, rfl, ht⟩, hb⟩; have HT : Hid _ := Lib.hid ht; have HB : Hid _ := Lib.hid hb; have k1 := blk_keep hb; have e0 := cell3 k1 (j := 0) rfl; have e1 := cell3 k1 (j := 1) rfl; have e2 := cell3 k1 (j := 2) rfl; have f0 := open3 k1 0; have f1 := open3 k1 1; have f2 := open3 k1 2; clear k1 ht hb; have hTl : Hid (t.data.toList = 45 :: Lib.decDigits u) := Lib.hid (by rw [HT.out, Lib.itoa_neg u hu]))
  | (go_at_call 128; refine (tpre_cut t _ hTl.out _).mono ?_; rintro e w2 ⟨⟨t2, rfl, ht2⟩, rfl⟩; have HQ : Hid (bts t2 = Dc.digs u) := Lib.hid (by show t2.data.toList.map UInt8.toNat = _; rw [ht2, decDigits_digs]); have qd : (t2.toList == t.toList) = false := (by rw [toList_beq]; exact decide_eq_false (fun h => by have h2 := congrArg List.length h; have h3 := hTl.out; simp [bts, ht2, h3] at h2)); clear ht2))
 refine bodyPost_ret (v := .agg #[.bool true, .string t2, .int .i64 0]) (by simp [results, Tryz.results108, go_sem, e0, e1, e2]) rfl ⟨by rw [<- HQ.out, str_bts], ?_⟩
 have B0 : Below w.heap.size w (w.alloc (.cells #[.bool false, .string ⟨#[]⟩, .int .i64 0] 24)) := (Below.refl _ w).alloc (Nat.le_refl _) _
 exact (((B0.trans (HB.out.mono B0.size)).setCell (p := ⟨w.heap.size, 0, none⟩) (Nat.le_refl _) _).setCell (p := ⟨w.heap.size, 1, none⟩) (Nat.le_refl _) _).setCell (p := ⟨w.heap.size, 2, none⟩) (Nat.le_refl _) _
theorem pOf_any (n : Int) (h0 : -9223372036854775808 <= n) (h1 : n <= 9223372036854775807) (w : World) (hP : Pow w) : Calls Tryz.prog 108 #[.int .i64 n] w fun e w' => e = .returned (.agg #[.bool (decide (n < 0)), .string (str (Dc.digs n.natAbs)), .int .i64 0]) /\ Below w.heap.size w w' := by
 rcases (by omega : n < 0 \/ 0 <= n) with hn | hn
 ·obtain ⟨u, rfl⟩ : ∃ u : Nat, n = -(u : Int) := ⟨n.natAbs, by omega⟩
  rw [decide_eq_true hn, Int.natAbs_neg, Int.natAbs_natCast]
  exact pOf_neg u (by omega) (by omega) w hP
 ·obtain ⟨u, rfl⟩ : ∃ u : Nat, n = u := ⟨n.toNat, by omega⟩
  rw [decide_eq_false (by omega), Int.natAbs_natCast]
  exact pOf_pos u h1 w hP
end Go.Proofs.YthoojcdjjecogaaGreatDoor
