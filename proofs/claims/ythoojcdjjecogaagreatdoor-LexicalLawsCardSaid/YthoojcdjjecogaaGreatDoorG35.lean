/-
  Part 35 of the proof: what functions return, and plain facts (Xread Xpair Xlaws Xlaws2). Conditions: each theorem names its own.
-/
import Derived.Test.YthoojcdjjecogaaGreatDoorG34
set_option maxRecDepth 1000000
set_option maxHeartbeats 16000000
namespace Go.Proofs.YthoojcdjjecogaaGreatDoor
open Go Go.RowKit Go.Ex

def tenL : X × Bool := (.lt (.int 300) (.len (.at 2)), false)
def rdX (f : Nat) (a : V) (k : Int) : CallX := ⟨f, [a, xs 5], [(.eq (.at 1) (.int k), true), tenL], .tup [vaV 6 .nils, xi 23]⟩
def rdC : List CallX := [⟨24, [xs 2], [tenL], .tup [.junk 0, xi 3, xi 4]⟩, ⟨25, [xs 2, it 2], [(.eq (.at 4) (.int 0), true), tenL], .tup [xs 5, it 0]⟩,
 rdX 228 (.agg []) 2, rdX 229 (.agg []) 3, rdX 254 (.agg []) 7, rdX 238 (.agg [it 1]) 4, rdX 238 (.agg [it 2]) 5, rdX 238 (.agg [it 3]) 6]
def rdL (y : Tree) : Tree := .node (.lt (.int 300) (.len (.at 2))) (tZ (it 3)) (.node (.eq (.at 4) (.int 0)) y (tZ (it 6)))
def rdY : Tree := .leaf (.tup [vaV 6 .nils, xi 23])
def rdP : Tree := .leaf (.tup [vl (it 1) (xs 2) (.bool false) (.bool false) (.str []) (it 0) mo0 .nils, it 0])
def rdT : Tree := .node (.eq (.at 1) (.int 1)) (rdL rdP) (.node (.eq (.at 1) (.int 2)) (rdL rdY) (.node (.eq (.at 1) (.int 3)) (rdL rdY) (.node (.eq (.at 1) (.int 4)) (rdL rdY) (.node (.eq (.at 1) (.int 5)) (rdL rdY) (.node (.eq (.at 1) (.int 6)) (rdL rdY) (.node (.eq (.at 1) (.int 7)) (rdL rdY) (tZ (it 2))))))))
theorem run_read : chk (runTr Tryz.prog nG (fun _ => none) gd moT rdC 100 9 [xi 1, xs 2] h0) rdT [] = true := by decide +kernel
def sqS (t : ByteArray) : ByteArray := str (sqTwo (bts t))
theorem sqS_size (t : ByteArray) : (sqS t).size <= t.size := by unfold sqS; rw [str_size]; exact sqTwo_length t
def rdE (p : Int) (t : ByteArray) : List Value := [.int .i64 p, .string t, .int .i64 (decP t), .int .i64 (decI t), .string (sqS t)] ++ (Lx.readS p (sqS t)).1.list ++ [.int .i64 (Lx.readS p (sqS t)).2]
theorem rd_le {E : Nat -> Value} {t : ByteArray} (hE : E 2 = .string t) (h : X.evB E tenL.1 = tenL.2) : t.size <= 300 := by
 have h2 : decide ((300 : Int) < ((X.evS E (.at 2)).size : Int)) = false := h
 simp only [X.evS, hE] at h2
 have := of_decide_eq_false h2
 omega
theorem rdC_ok (p : Int) (t : ByteArray) (M : Int) : AllX Tryz.prog (envE (.int .i64 M :: rdE p t)) (Vars M) rdC := by
 have hE : envE (.int .i64 M :: rdE p t) 2 = .string t := rfl
 have one : ∀ (f : Nat) (a : V) (av : Value) (k : Int) (hf : ∃ fn, Tryz.prog.funcs[f]? = some fn /\ (fn.name == "runtime.NumGoroutine") = false /\ fn.body.isNone = false) (ha : ∀ L, a.den L (envE (.int .i64 M :: rdE p t)) = av),
   (∀ w, p = k -> t.size <= 300 -> Vars M w -> Calls Tryz.prog f #[av, .string (sqS t)] w fun e w' => e = .returned (tuV (Lx.readS p (sqS t))) /\ Below w.heap.size w w') -> CallX.Ok Tryz.prog (envE (.int .i64 M :: rdE p t)) (Vars M) (rdX f a k) := fun f a av k hf ha h => by
  refine ⟨rfl, hf, fun hp L w hV => ?_⟩
  have e1 : V.dens L (envE (.int .i64 M :: rdE p t)) [a, xs 5] = [av, .string (sqS t)] := by simp only [V.dens, ha]; rfl
  show Calls _ _ (V.dens L (envE (.int .i64 M :: rdE p t)) [a, xs 5]).toArray w fun q w' => q = .returned (tuV (Lx.readS p (sqS t))) /\ Below w.heap.size w w'
  rw [e1]
  exact h w (of_decide_eq_true (show decide (p = k) = true from hp.1)) (rd_le hE hp.2.1) hV
 refine ⟨pdec_ok _ (fun hp => by have := rd_le hE hp.1; omega) rfl rfl rfl, ⟨rfl, fk, fun hp L w hV => ?_⟩,
  one _ _ (.agg #[]) 2 fk (fun _ => rfl) fun w hk _ _ => ?_,
  one _ _ (.agg #[]) 3 fk (fun _ => rfl) fun w hk ht hV => ?_,
  one _ _ (.agg #[]) 7 fk (fun _ => rfl) fun w hk ht hV => ?_,
  one _ _ (.agg #[.int .i64 1]) 4 fk (fun _ => rfl) fun w hk ht hV => ?_,
  one _ _ (.agg #[.int .i64 2]) 5 fk (fun _ => rfl) fun w hk ht hV => ?_,
  one _ _ (.agg #[.int .i64 3]) 6 fk (fun _ => rfl) fun w hk ht hV => ?_, trivial⟩
 ·have h0 : decide (decI t = 0) = true := hp.1
  rw [decI_zero] at h0
  have ht := rd_le hE hp.2.1
  exact f22_2 t (by omega) w hV.rng M (by obtain ⟨lo, hi, h1, _⟩ := hV.row0; simp [World.cell?, h1]) (of_decide_eq_true h0)
 ·subst hk; exact xtruth_is (sqS t) w
 ·subst hk; have := sqS_size t; exact xnum_is (sqS t) (by omega) w M hV
 ·subst hk; have := sqS_size t; exact xhexr_is (sqS t) (by omega) w
 ·subst hk; have := sqS_size t; exact xinstant_is 1 (sqS t) (by omega) w M hV
 ·subst hk; have := sqS_size t; exact xinstant_is 2 (sqS t) (by omega) w M hV
 ·subst hk; have := sqS_size t; exact xinstant_is 3 (sqS t) (by omega) w M hV
theorem rdL_at (y : Tree) (p : Int) (t : ByteArray) (M : Int) (h : decide (300 < t.size) = false -> decide (wrongI t = -1) = true -> (y.at (envE (.int .i64 M :: rdE p t))).den L0 (envE (.int .i64 M :: rdE p t)) = tuV (Lx.readV p t)) (h1 : ¬(p < 1 \/ 7 < p)) :
  ((rdL y).at (envE (.int .i64 M :: rdE p t))).den L0 (envE (.int .i64 M :: rdE p t)) = tuV (Lx.readV p t) := by
 have e : (rdL y).at (envE (.int .i64 M :: rdE p t)) = bif decide ((300 : Int) < (t.size : Int)) then (tZ (it 3)).at (envE (.int .i64 M :: rdE p t)) else bif decide (decI t = 0) then y.at (envE (.int .i64 M :: rdE p t)) else (tZ (it 6)).at (envE (.int .i64 M :: rdE p t)) := rfl
 rw [e, decI_zero]
 by_cases h2 : 300 < t.size
 ·rw [decide_eq_true (by omega), cond_true, tZ_den (it 3) 3 _ rfl]; unfold Lx.readV; rw [if_neg h1, if_pos h2]
 ·rw [decide_eq_false (by omega), cond_false]
  by_cases h3 : wrongI t = -1
  ·rw [decide_eq_true h3, cond_true]; exact h (decide_eq_false h2) (decide_eq_true h3)
  ·rw [decide_eq_false h3, cond_false, tZ_den (it 6) 6 _ rfl]; unfold Lx.readV; rw [if_neg h1, if_neg h2, if_pos h3]
theorem xread_is (p : Int) (t : ByteArray) (w : World) (M : Int) (hV : Vars M w) : Calls Tryz.prog 9 #[.int .i64 p, .string t] w fun e w' => e = .returned (tuV (Lx.readV p t)) /\ Below w.heap.size w w' := by
 refine tree_rv (env := rdE p t) run_read (rdC_ok p t M) (by unfold rdE; rw [List.all_append, List.all_append]; rfl) trivial rfl rfl ?_ hV
 have e : rdT.at (envE (.int .i64 M :: rdE p t)) = bif decide (p = 1) then (rdL rdP).at (envE (.int .i64 M :: rdE p t)) else bif decide (p = 2) then (rdL rdY).at (envE (.int .i64 M :: rdE p t)) else bif decide (p = 3) then (rdL rdY).at (envE (.int .i64 M :: rdE p t)) else bif decide (p = 4) then (rdL rdY).at (envE (.int .i64 M :: rdE p t)) else
  bif decide (p = 5) then (rdL rdY).at (envE (.int .i64 M :: rdE p t)) else bif decide (p = 6) then (rdL rdY).at (envE (.int .i64 M :: rdE p t)) else bif decide (p = 7) then (rdL rdY).at (envE (.int .i64 M :: rdE p t)) else (tZ (it 2)).at (envE (.int .i64 M :: rdE p t)) := rfl
 rw [e]
 have yes : ∀ k, p = k -> k ≠ 1 -> 1 <= k -> k <= 7 -> ((rdL rdY).at (envE (.int .i64 M :: rdE p t))).den L0 (envE (.int .i64 M :: rdE p t)) = tuV (Lx.readV p t) := fun k hk k1 k2 k3 => by
  refine rdL_at rdY p t M (fun h2 h3 => ?_) (by omega)
  unfold Lx.readV
  rw [if_neg (by omega), if_neg (of_decide_eq_false h2), if_neg (fun h => h (of_decide_eq_true h3)), if_neg (by omega)]
  rfl
 by_cases h1 : p = 1
 ·rw [decide_eq_true h1, cond_true]
  refine rdL_at rdP p t M (fun h2 h3 => ?_) (by omega)
  unfold Lx.readV
  rw [if_neg (by omega), if_neg (of_decide_eq_false h2), if_neg (fun h => h (of_decide_eq_true h3)), if_pos h1]
  rfl
 rw [decide_eq_false h1, cond_false]
 by_cases h2 : p = 2
 ·rw [decide_eq_true h2]; exact yes 2 h2 (by decide) (by decide) (by decide)
 rw [decide_eq_false h2, cond_false]
 by_cases h3 : p = 3
 ·rw [decide_eq_true h3]; exact yes 3 h3 (by decide) (by decide) (by decide)
 rw [decide_eq_false h3, cond_false]
 by_cases h4 : p = 4
 ·rw [decide_eq_true h4]; exact yes 4 h4 (by decide) (by decide) (by decide)
 rw [decide_eq_false h4, cond_false]
 by_cases h5 : p = 5
 ·rw [decide_eq_true h5]; exact yes 5 h5 (by decide) (by decide) (by decide)
 rw [decide_eq_false h5, cond_false]
 by_cases h6 : p = 6
 ·rw [decide_eq_true h6]; exact yes 6 h6 (by decide) (by decide) (by decide)
 rw [decide_eq_false h6, cond_false]
 by_cases h7 : p = 7
 ·rw [decide_eq_true h7]; exact yes 7 h7 (by decide) (by decide) (by decide)
 rw [decide_eq_false h7, cond_false, tZ_den (it 2) 2 _ rfl]
 unfold Lx.readV
 rw [if_pos (by omega)]
end Go.Proofs.YthoojcdjjecogaaGreatDoor
namespace Go.Proofs.YthoojcdjjecogaaGreatDoor
open Go Go.RowKit Go.Ex
namespace Lx
def sameB (a b : Vl) (q : Bool) : Bool := if a.k = b.k then (if a.k = 4 then (equalM a.m b.m).1 && decide ((equalM a.m b.m).2 = 0) else if a.k = 6 then q else decide (a.t = b.t) && ((a.b == b.b) && ((a.n == b.n) && (decide (a.s = b.s) && decide (a.S = b.S))))) else false
def equalV (oa ob : Bool) (a b : Vl) (q : Bool) : Bool × Int := if oa = true /\ ob = true then (sameB a b q, 0) else (false, 2)
def orderV (oa ob : Bool) (a b : Vl) : Int × Bool × Int :=
 if oa = true /\ ob = true /\ a.k = b.k /\ a.m.k = b.m.k then (if a.k = 3 then ((cmpR a.n a.s a.S b.n b.s b.S).1, true, 0) else if a.k = 4 then (if (cmpM a.m b.m).2.2 = 0 /\ (cmpM a.m b.m).2.1 = true then ((cmpM a.m b.m).1, true, 0) else (0, false, 0)) else (0, false, 2)) else (0, false, 2)
end Lx
def prE (v u : Vl) (l k : Value) (x y : Int) (r : List Value) : List Value := vE v l ++ ([.int .i64 x, .bool false] ++ (vE u k ++ ([.int .i64 y] ++ r)))
theorem prE_one {v u : Vl} {l k : Value} {n m : Nat} (hl : SliceN l n) (hk : SliceN k m) (x y : Int) (r : List Value) (hr : r.all Value.oneCell' = true) : (prE v u l k x y r).all Value.oneCell' = true := by
 unfold prE
 refine vE_one v l n hl _ ?_
 rw [List.all_append]
 refine (Bool.and_eq_true _ _).symm ▸ ⟨rfl, vE_one u k m hk _ ?_⟩
 rw [List.all_append, hr]; rfl
def smT : Tree := .node (.eq (.at 1) (.at 21)) (.node (.eq (.at 1) (.int 4)) (chT [(.at 40, true), (.eq (.at 41) (.int 0), true)] yesT noT) (.node (.eq (.at 1) (.int 6)) (.leaf (xb 42)) (chT [(.seq (.at 2) (.at 22), true), (.beq (.at 3) (.at 23), true), (.beq (.at 4) (.at 24), true), (.seq (.at 5) (.at 25), true), (.eq (.at 6) (.at 26), true)] yesT noT))) noT
def smX : List CallX := [⟨79, [moV 7, moV 27], [], .tup [xb 40, xi 41]⟩, ⟨80, [.atom 18, .atom 38, .fn 41 []], [(.eq (.at 1) (.at 21), true), (.eq (.at 1) (.int 6), true)], xb 42⟩]
theorem run_same9 : chk (runTr Tryz.prog nG (fun _ => none) gd moT smX 100 41 [vaV 1 (.atom 18), vaV 21 (.atom 38)] h0) smT [(.isSl 18, true), (.isSl 38, true)] = true := by decide +kernel
def ListEq (M : Int) (v u : Vl) (l k : Value) (q : Bool) : Prop := v.k = 6 -> u.k = 6 -> ∀ w, Vars M w -> Calls Tryz.prog 80 #[l, k, .func (.func 41) #[] #[]] w fun e w' => e = .returned (.bool q) /\ Below w.heap.size w w'
theorem xsame_is (v u : Vl) (hv : v.Sz) (hu : u.Sz) (l k : Value) (n m : Nat) (hl : SliceN l n) (hk : SliceN k m) (q : Bool) (w : World) (M : Int) (hq : ListEq M v u l k q) (hV : Vars M w) : Calls Tryz.prog 41 #[v.val l, u.val k] w fun e w' => e = .returned (.bool (Lx.sameB v u q)) /\ Below w.heap.size w w' := by
 refine tree_rv (env := prE v u l k 0 0 [.bool (equalM v.m u.m).1, .int .i64 (equalM v.m u.m).2, .bool q]) run_same9
  ⟨⟨rfl, fk, fun _ L w hV => pequalm_is v.m u.m hv.m hu.m _ _ rfl w M hV⟩,
   ⟨rfl, fk, fun hp L w hV => ?_⟩, trivial⟩
  (prE_one hl hk _ _ _ rfl) ⟨isSl_ok hl rfl, isSl_ok hk rfl, trivial⟩ rfl rfl ?_ hV
 ·have k1 : v.k = u.k := of_decide_eq_true (show decide (v.k = u.k) = true from hp.1)
  have k2 : v.k = 6 := of_decide_eq_true (show decide (v.k = 6) = true from hp.2.1)
  exact hq k2 (k1 ▸ k2) w hV
 ·obtain ⟨E, hE⟩ : ∃ E, envE (.int .i64 M :: prE v u l k 0 0 [.bool (equalM v.m u.m).1, .int .i64 (equalM v.m u.m).2, .bool q]) = E := ⟨_, rfl⟩
  have e : smT.at (envE (.int .i64 M :: prE v u l k 0 0 [.bool (equalM v.m u.m).1, .int .i64 (equalM v.m u.m).2, .bool q])) = bif decide (v.k = u.k) then bif decide (v.k = 4) then bif (equalM v.m u.m).1 then bif decide ((equalM v.m u.m).2 = 0) then .bool true else .bool false else .bool false else bif decide (v.k = 6) then xb 42 else
   bif decide (v.t = u.t) then bif (v.b == u.b) then bif (v.n == u.n) then bif decide (v.s = u.s) then bif decide (v.S = u.S) then .bool true else .bool false else .bool false else .bool false else .bool false else .bool false else .bool false := rfl
  rw [e]
  clear e hE
  unfold Lx.sameB
  by_cases h1 : v.k = u.k
  ·rw [decide_eq_true h1, cond_true, if_pos h1]
   by_cases h2 : v.k = 4
   ·rw [decide_eq_true h2, cond_true, if_pos h2]
    cases (equalM v.m u.m).1 <;> cases decide ((equalM v.m u.m).2 = 0) <;> rfl
   ·rw [decide_eq_false h2, cond_false, if_neg h2]
    by_cases h3 : v.k = 6
    ·rw [decide_eq_true h3, cond_true, if_pos h3]; rfl
    ·rw [decide_eq_false h3, cond_false, if_neg h3]
     cases decide (v.t = u.t) <;> cases (v.b == u.b) <;> cases (v.n == u.n) <;> cases decide (v.s = u.s) <;> cases decide (v.S = u.S) <;> rfl
  ·rw [decide_eq_false h1, cond_false, if_neg h1]; rfl
def chI (b : Bool) : Int := bif b then 0 else 2
theorem chI_zero (b : Bool) : decide (chI b = 0) = b := by cases b <;> rfl
def eqT : Tree := .node (.eq (.at 19) (.int 0)) (.node (.eq (.at 39) (.int 0)) (.leaf (.tup [xb 40, it 0])) (.leaf (.tup [.bool false, it 2]))) (.leaf (.tup [.bool false, it 2]))
def eqX : List CallX := [⟨17, [vaV 1 (.atom 18)], [], xi 19⟩, ⟨17, [vaV 21 (.atom 38)], [], xi 39⟩, ⟨41, [vaV 1 (.atom 18), vaV 21 (.atom 38)], [(.eq (.at 19) (.int 0), true), (.eq (.at 39) (.int 0), true)], xb 40⟩]
theorem run_equal9 : chk (runTr Tryz.prog nG (fun _ => none) gd moT eqX 100 19 [vaV 1 (.atom 18), vaV 21 (.atom 38)] h0) eqT [(.isSl 18, true), (.isSl 38, true)] = true := by decide +kernel
theorem xequal_is (v u : Vl) (hv : v.Sz) (hu : u.Sz) (l k : Value) (n m : Nat) (hl : SliceN l n) (hk : SliceN k m) (c d q : Bool) (w : World) (M : Int) (hc : ListOk M v l n c) (hd : ListOk M u k m d) (hq : Lx.okV v n c = true -> Lx.okV u m d = true -> ListEq M v u l k q) (hV : Vars M w) :
  Calls Tryz.prog 19 #[v.val l, u.val k] w fun e w' => e = .returned (.tuple #[.bool (Lx.equalV (Lx.okV v n c) (Lx.okV u m d) v u q).1, .int .i64 (Lx.equalV (Lx.okV v n c) (Lx.okV u m d) v u q).2]) /\ Below w.heap.size w w' := by
 refine tree_rv (env := prE v u l k (chI (Lx.okV v n c)) (chI (Lx.okV u m d)) [.bool (Lx.sameB v u q)]) run_equal9
  ⟨⟨rfl, fk, fun _ L w hV => xcheck_is v hv l n hl c w M hc hV⟩, ⟨rfl, fk, fun _ L w hV => xcheck_is u hu k m hk d w M hd hV⟩,
   ⟨rfl, fk, fun hp L w hV => xsame_is v u hv hu l k n m hl hk q w M (hq ?_ ?_) hV⟩, trivial⟩ (prE_one hl hk _ _ _ rfl) ⟨isSl_ok hl rfl, isSl_ok hk rfl, trivial⟩ rfl rfl ?_ hV
 ·have h1 : decide (chI (Lx.okV v n c) = 0) = true := hp.1
  rw [chI_zero] at h1; exact h1
 ·have h2 : decide (chI (Lx.okV u m d) = 0) = true := hp.2.1
  rw [chI_zero] at h2; exact h2
 ·have e : eqT.at (envE (.int .i64 M :: prE v u l k (chI (Lx.okV v n c)) (chI (Lx.okV u m d)) [.bool (Lx.sameB v u q)])) = bif decide (chI (Lx.okV v n c) = 0) then bif decide (chI (Lx.okV u m d) = 0) then .tup [xb 40, it 0] else .tup [.bool false, it 2] else .tup [.bool false, it 2] := rfl
  rw [e, chI_zero, chI_zero]
  unfold Lx.equalV
  cases Lx.okV v n c with
  | false => rw [cond_false, if_neg (fun h => by cases h.1)]; rfl
  | true =>
   cases Lx.okV u m d with
   | false => rw [cond_true, cond_false, if_neg (by decide)]; rfl
   | true => rw [cond_true, cond_true, if_pos (by decide)]; rfl
def orN : Tree := .leaf (.tup [it 0, .bool false, it 2])
def orT : Tree := .node (.eq (.at 19) (.int 0)) (.node (.eq (.at 39) (.int 0)) (.node (.eq (.at 1) (.at 21)) (.node (.eq (.at 7) (.at 27)) (.node (.eq (.at 1) (.int 3)) (.leaf (.tup [xi 40, .bool true, it 0]))
 (.node (.eq (.at 1) (.int 4)) (.node (.eq (.at 44) (.int 0)) (.node (.at 43) (.leaf (.tup [xi 42, .bool true, it 0])) (.leaf (.tup [it 0, .bool false, it 0]))) (.leaf (.tup [it 0, .bool false, it 0]))) orN)) orN) orN) orN) orN
def orX : List CallX := [⟨17, [vaV 1 (.atom 18)], [], xi 19⟩, ⟨17, [vaV 21 (.atom 38)], [], xi 39⟩, ⟨43, [deV 4, deV 24], [], .tup [xi 40, xi 41]⟩, ⟨44, [moV 7, moV 27], [], .tup [xi 42, xb 43, xi 44]⟩]
theorem run_order9 : chk (runTr Tryz.prog nG (fun _ => none) gd moT orX 100 21 [vaV 1 (.atom 18), vaV 21 (.atom 38)] h0) orT [(.isSl 18, true), (.isSl 38, true)] = true := by decide +kernel
theorem xorder_is (v u : Vl) (hv : v.Sz) (hu : u.Sz) (l k : Value) (n m : Nat) (hl : SliceN l n) (hk : SliceN k m) (c d : Bool) (w : World) (M : Int) (hc : ListOk M v l n c) (hd : ListOk M u k m d) (hV : Vars M w) :
  Calls Tryz.prog 21 #[v.val l, u.val k] w fun e w' => e = .returned (.tuple #[.int .i64 (Lx.orderV (Lx.okV v n c) (Lx.okV u m d) v u).1, .bool (Lx.orderV (Lx.okV v n c) (Lx.okV u m d) v u).2.1, .int .i64 (Lx.orderV (Lx.okV v n c) (Lx.okV u m d) v u).2.2]) /\ Below w.heap.size w w' := by
 refine tree_rv (env := prE v u l k (chI (Lx.okV v n c)) (chI (Lx.okV u m d)) [.int .i64 (cmpR v.n v.s v.S u.n u.s u.S).1, .int .i64 (cmpR v.n v.s v.S u.n u.s u.S).2, .int .i64 (cmpM v.m u.m).1, .bool (cmpM v.m u.m).2.1, .int .i64 (cmpM v.m u.m).2.2]) run_order9
  ⟨⟨rfl, fk, fun _ L w hV => xcheck_is v hv l n hl c w M hc hV⟩, ⟨rfl, fk, fun _ L w hV => xcheck_is u hu k m hk d w M hd hV⟩,
   ⟨rfl, fk, fun _ L w _ => pcmp_is v.n v.s v.S u.n u.s u.S hv.s hu.s _ _ rfl w⟩,
   ⟨rfl, fk, fun _ L w hV => pcmpm_is v.m u.m hv.m hu.m _ _ _ rfl w M hV⟩, trivial⟩ (prE_one hl hk _ _ _ rfl) ⟨isSl_ok hl rfl, isSl_ok hk rfl, trivial⟩ rfl rfl ?_ hV
 obtain ⟨nn, hnn⟩ : ∃ x : V, x = .tup [it 0, .bool false, it 2] := ⟨_, rfl⟩
 have e : orT.at (envE (.int .i64 M :: prE v u l k (chI (Lx.okV v n c)) (chI (Lx.okV u m d)) [.int .i64 (cmpR v.n v.s v.S u.n u.s u.S).1, .int .i64 (cmpR v.n v.s v.S u.n u.s u.S).2, .int .i64 (cmpM v.m u.m).1, .bool (cmpM v.m u.m).2.1, .int .i64 (cmpM v.m u.m).2.2])) = bif decide (chI (Lx.okV v n c) = 0) then bif decide (chI (Lx.okV u m d) = 0) then bif decide (v.k = u.k) then bif decide (v.m.k = u.m.k) then
  bif decide (v.k = 3) then .tup [xi 40, .bool true, it 0] else bif decide (v.k = 4) then bif decide ((cmpM v.m u.m).2.2 = 0) then bif (cmpM v.m u.m).2.1 then .tup [xi 42, .bool true, it 0] else .tup [it 0, .bool false, it 0] else .tup [it 0, .bool false, it 0] else nn else nn else nn else nn else nn := by rw [hnn]; rfl
 rw [e, chI_zero, chI_zero]
 unfold Lx.orderV
 by_cases h : Lx.okV v n c = true /\ Lx.okV u m d = true /\ v.k = u.k /\ v.m.k = u.m.k
 ·obtain ⟨h1, h2, h3, h4⟩ := h
  rw [if_pos ⟨h1, h2, h3, h4⟩, h1, h2, decide_eq_true h3, decide_eq_true h4, cond_true, cond_true, cond_true, cond_true]
  by_cases h5 : v.k = 3
  ·rw [decide_eq_true h5, cond_true, if_pos h5]; rfl
  ·rw [decide_eq_false h5, cond_false, if_neg h5]
   by_cases h6 : v.k = 4
   ·rw [decide_eq_true h6, cond_true, if_pos h6]
    by_cases h7 : (cmpM v.m u.m).2.2 = 0
    ·rw [decide_eq_true h7, cond_true]
     cases h8 : (cmpM v.m u.m).2.1 with
     | true => rw [cond_true, if_pos ⟨h7, rfl⟩]; rfl
     | false => rw [cond_false, if_neg (fun h => by cases h.2)]; rfl
    ·rw [decide_eq_false h7, cond_false, if_neg (fun h => h7 h.1)]; rfl
   ·rw [decide_eq_false h6, cond_false, if_neg h6, hnn]; rfl
 ·rw [if_neg h]
  have fin : nn.den L0 (envE (.int .i64 M :: prE v u l k (chI (Lx.okV v n c)) (chI (Lx.okV u m d)) [.int .i64 (cmpR v.n v.s v.S u.n u.s u.S).1, .int .i64 (cmpR v.n v.s v.S u.n u.s u.S).2, .int .i64 (cmpM v.m u.m).1, .bool (cmpM v.m u.m).2.1, .int .i64 (cmpM v.m u.m).2.2])) = .tuple #[.int .i64 0, .bool false, .int .i64 2] := by rw [hnn]; rfl
  cases h1 : Lx.okV v n c with
  | false => rw [h1] at fin; exact fin
  | true =>
   cases h2 : Lx.okV u m d with
   | false => rw [h1, h2] at fin; exact fin
   | true =>
    rw [h1, h2] at fin
    by_cases h3 : v.k = u.k
    ·by_cases h4 : v.m.k = u.m.k
     ·exact absurd ⟨h1, h2, h3, h4⟩ h
     ·rw [decide_eq_true h3, decide_eq_false h4]; exact fin
    ·rw [decide_eq_false h3]; exact fin
end Go.Proofs.YthoojcdjjecogaaGreatDoor
namespace Go.Proofs.YthoojcdjjecogaaGreatDoor
open Go Go.RowKit Go.Ex
theorem run_text9 : chk (runTr Tryz.prog nG (fun _ => none) gd moT [⟨17, [vaV 1 .nils], [], xi 18⟩, ⟨31, [vaV 1 .nils], [], xs 19⟩] 100 13 [vaV 1 .nils] h0) (.node (.eq (.at 18) (.int 0)) (.leaf (.tup [xs 19, it 0])) (.leaf (.tup [.str [], it 2]))) [] = true := by decide +kernel
theorem xck_of (v : Vl) (hv : v.Sz) (h6 : v.k ≠ 6) (M : Int) {o : Bool} (ho : Lx.okV v 0 false = o) (w : World) (hV : Vars M w) : Calls Tryz.prog 17 #[v.val nilL] w fun e w' => e = .returned (.int .i64 (chI o)) /\ Below w.heap.size w w' := by
 rw [<- ho]; exact xcheck_is v hv nilL 0 nilL_slice false w M (listOk_no h6) hV
theorem xtextf_is (v : Vl) (hv : v.Sz) (t : ByteArray) (ht : ∀ w M, Vars M w -> Calls Tryz.prog 31 #[v.val nilL] w fun e w' => e = .returned (.string t) /\ Below w.heap.size w w') (hk : v.k ≠ 6) (w : World) (M : Int) (hV : Vars M w) :
  Calls Tryz.prog 13 #[v.val nilL] w fun e w' => e = .returned (bif Lx.okV v 0 false then .tuple #[.string t, .int .i64 0] else .tuple #[.string ⟨#[]⟩, .int .i64 2]) /\ Below w.heap.size w w' := by
 obtain ⟨o, ho⟩ : ∃ o, Lx.okV v 0 false = o := ⟨_, rfl⟩
 have hck := xck_of v hv hk M ho
 rw [ho]
 clear ho
 have h1 : (v.list ++ [Value.int .i64 (chI o), Value.string t]).all Value.oneCell' = true := rfl
 have h2 : (V.dens L0 (envE (.int .i64 M :: (v.list ++ [.int .i64 (chI o), .string t]))) [vaV 1 .nils]).toArray = #[v.val nilL] := rfl
 have h3 : (Tree.at (envE (.int .i64 M :: (v.list ++ [.int .i64 (chI o), .string t]))) (.node (.eq (.at 18) (.int 0)) (.leaf (.tup [xs 19, it 0])) (.leaf (.tup [.str [], it 2])))).den L0 (envE (.int .i64 M :: (v.list ++ [.int .i64 (chI o), .string t]))) = bif o then Value.tuple #[.string t, .int .i64 0] else .tuple #[.string ⟨#[]⟩, .int .i64 2] := by
  show (bif decide (chI o = 0) then V.tup [xs 19, it 0] else V.tup [.str [], it 2]).den L0 _ = _
  rw [chI_zero]
  cases o <;> rfl
 have h4 : AllX Tryz.prog (envE (.int .i64 M :: (v.list ++ [.int .i64 (chI o), .string t]))) (Vars M) [⟨17, [vaV 1 .nils], [], xi 18⟩, ⟨31, [vaV 1 .nils], [], xs 19⟩] := ⟨⟨rfl, fk, fun _ L w hV => hck w hV⟩, ⟨rfl, fk, fun _ L w hV => ht w M hV⟩, trivial⟩
 exact tree_rv run_text9 h4 h1 trivial rfl h2 h3 hV
def leT : Tree := .node (.eq (.at 18) (.int 0)) (.node (.eq (.at 1) (.int 5)) (.leaf (.tup [.xi .i64 (.len (.at 2)), it 0])) (.leaf (.tup [it 0, it 2]))) (.leaf (.tup [it 0, it 2]))
theorem run_len9 : chk (runTr Tryz.prog nG (fun _ => none) gd moT [⟨17, [vaV 1 .nils], [], xi 18⟩] 100 15 [vaV 1 .nils] h0) leT [(.eq (.at 1) (.int 1), false), (.eq (.at 1) (.int 6), false)] = true := by decide +kernel
theorem xlength_is (v : Vl) (hv : v.Sz) (h1 : v.k ≠ 1) (h6 : v.k ≠ 6) (w : World) (M : Int) (hV : Vars M w) : Calls Tryz.prog 15 #[v.val nilL] w fun e w' => e = .returned (bif Lx.okV v 0 false && decide (v.k = 5) then .tuple #[.int .i64 v.t.size, .int .i64 0] else .tuple #[.int .i64 0, .int .i64 2]) /\ Below w.heap.size w w' := by
 obtain ⟨o, ho⟩ : ∃ o, Lx.okV v 0 false = o := ⟨_, rfl⟩
 have hck := xck_of v hv h6 M ho
 rw [ho]
 clear ho
 have a1 : (v.list ++ [Value.int .i64 (chI o)]).all Value.oneCell' = true := rfl
 have a2 : (V.dens L0 (envE (.int .i64 M :: (v.list ++ [.int .i64 (chI o)]))) [vaV 1 .nils]).toArray = #[v.val nilL] := rfl
 have a3 : (leT.at (envE (.int .i64 M :: (v.list ++ [.int .i64 (chI o)])))).den L0 (envE (.int .i64 M :: (v.list ++ [.int .i64 (chI o)]))) = bif o && decide (v.k = 5) then Value.tuple #[.int .i64 v.t.size, .int .i64 0] else .tuple #[.int .i64 0, .int .i64 2] := by
  show (bif decide (chI o = 0) then bif decide (v.k = 5) then V.tup [.xi .i64 (.len (.at 2)), it 0] else V.tup [it 0, it 2] else V.tup [it 0, it 2]).den L0 _ = _
  rw [chI_zero]
  cases o <;> cases decide (v.k = 5) <;> rfl
 have a4 : AllX Tryz.prog (envE (.int .i64 M :: (v.list ++ [.int .i64 (chI o)]))) (Vars M) [⟨17, [vaV 1 .nils], [], xi 18⟩] := ⟨⟨rfl, fk, fun _ L w hV => hck w hV⟩, trivial⟩
 have a5 : Fx.Ok (envE (.int .i64 M :: (v.list ++ [.int .i64 (chI o)]))) [(.eq (.at 1) (.int 1), false), (.eq (.at 1) (.int 6), false)] := ⟨decide_eq_false h1, decide_eq_false h6, trivial⟩
 exact tree_rv run_len9 a4 a1 a5 rfl a2 a3 hV
def sA : ByteArray := ⟨#[32, 43, 48, 48, 55, 46, 53, 48, 32]⟩
def vA : Vl := ⟨3, ⟨#[]⟩, false, false, ⟨#[55, 53]⟩, 1, Mo.nil⟩
def vB : Vl := ⟨5, ⟨#[10, 255]⟩, false, false, ⟨#[]⟩, 0, Mo.nil⟩
def vC : Vl := ⟨2, ⟨#[]⟩, true, false, ⟨#[]⟩, 0, Mo.nil⟩
theorem read_A : Lx.readV 3 sA = (vA, 0) := by kernel_rfl
theorem read_dot : Lx.readV 3 ⟨#[46]⟩ = (Lx.zero, 6) := by kernel_rfl
theorem read_B : Lx.readV 7 ⟨#[48, 97, 102, 102]⟩ = (vB, 0) := by kernel_rfl
theorem read_C : Lx.readV 2 ⟨#[49]⟩ = (vC, 0) := by kernel_rfl
theorem ok_A : Lx.okV vA 0 false = true := by kernel_rfl
theorem ok_B : Lx.okV vB 0 false = true := by kernel_rfl
theorem ok_Z : Lx.okV Lx.zero 0 false = false := by kernel_rfl
def zv : V := vl (it 0) (.str []) (.bool false) (.bool false) (.str []) (it 0) mo0 .nils
def shA : V := vl (it 3) (.str []) (.bool false) (.bool false) (.str [55, 53]) (it 1) mo0 .nils
def shB : V := vl (it 5) (.str [10, 255]) (.bool false) (.bool false) (.str []) (it 0) mo0 .nils
def shC : V := vl (it 2) (.str []) (.bool true) (.bool false) (.str []) (it 0) mo0 .nils
def shX : List CallX := [⟨9, [it 3, .str [32, 43, 48, 48, 55, 46, 53, 48, 32]], [], .tup [shA, it 0]⟩, ⟨9, [it 3, .str [46]], [], .tup [zv, it 6]⟩, ⟨9, [it 7, .str [48, 97, 102, 102]], [], .tup [shB, it 0]⟩, ⟨13, [shB], [], .tup [.str [48, 65, 70, 70], it 0]⟩, ⟨15, [shB], [], .tup [it 2, it 0]⟩, ⟨9, [it 2, .str [49]], [], .tup [shC, it 0]⟩, ⟨17, [shA], [], it 0⟩, ⟨17, [zv], [], it 2⟩]
theorem run_shown9 : chk (runTr Tryz.prog nG (fun _ => none) gd moT shX 100 8 [] h0) yesT [] = true := by decide +kernel
theorem small_sz (v : Vl) (h1 : v.t.size <= 100000 := by decide) (h2 : v.s.size <= 1000000 := by decide) (h3 : v.m.s.size <= 1000000 := by decide) : v.Sz := ⟨h1, h2, h3⟩
theorem xshown_is (w : World) (M : Int) (hV : Vars M w) : Calls Tryz.prog 8 #[] w fun e w' => e = .returned (.bool true) /\ Below w.heap.size w w' := by
 have rd : ∀ (p : Int) (t : ByteArray) (r : Vl × Int) (h : Lx.readV p t = r) (w : World) (hV : Vars M w), Calls Tryz.prog 9 #[.int .i64 p, .string t] w fun e w' => e = .returned (tuV r) /\ Below w.heap.size w w' := fun p t r h w hV => by rw [<- h]; exact xread_is p t w M hV
 refine tree_rv (env := []) run_shown9 ⟨⟨rfl, fk, fun _ L w hV => rd 3 sA _ read_A w hV⟩, ⟨rfl, fk, fun _ L w hV => rd 3 _ _ read_dot w hV⟩, ⟨rfl, fk, fun _ L w hV => rd 7 _ _ read_B w hV⟩,
  ⟨rfl, fk, fun _ L w hV => ?_⟩, ⟨rfl, fk, fun _ L w hV => ?_⟩, ⟨rfl, fk, fun _ L w hV => rd 2 _ _ read_C w hV⟩,
  ⟨rfl, fk, fun _ L w hV => ?_⟩, ⟨rfl, fk, fun _ L w hV => ?_⟩, trivial⟩ rfl trivial rfl rfl rfl hV
 ·have h := xtextf_is vB (small_sz vB) (str (Lx.hexT (bts vB.t))) (fun w M _ => xtext5_is vB.t (by decide) false false ⟨#[]⟩ 0 Mo.nil nilL w) (by decide) w M hV
  rw [ok_B] at h
  exact h
 ·have h := xlength_is vB (small_sz vB) (by decide) (by decide) w M hV
  rw [ok_B] at h
  exact h
 ·have h := xcheck_is vA (small_sz vA) nilL 0 nilL_slice false w M (listOk_no (by decide)) hV
  rw [ok_A] at h
  exact h
 ·have h := xcheck_is Lx.zero (small_sz Lx.zero) nilL 0 nilL_slice false w M (listOk_no (by decide)) hV
  rw [ok_Z] at h
  exact h
theorem readR_ok {l : List Nat} (h : (readR l).k = 0) : okB (readR l).n (readR l).s (readR l).S = true := by
 unfold readR at h ⊢
 cases ho : Dc.readD l with
 | none => rw [ho] at h; cases h
 | some o =>
  rw [ho] at h
  cases o with
  | none => cases h
  | some a =>
   have hc : Dc.ok a := by
    unfold Dc.readD at ho
    split at ho
    ·obtain ⟨n, u, T⟩ := a
     exact (Dc.can_is (Option.some.inj ho)).1
    ·cases ho
   exact ok_okB hc
theorem read3 {t : ByteArray} (h : (Lx.readV 3 t).2 = 0) : ∃ n s S, (Lx.readV 3 t).1 = ⟨3, ⟨#[]⟩, false, n, s, S, Mo.nil⟩ /\ okB n s S = true := by
 unfold Lx.readV at h ⊢
 rw [if_neg (by decide)] at h ⊢
 split at h
 ·cases h
 rename_i h1
 rw [if_neg h1]
 split at h
 ·cases h
 rename_i h2
 rw [if_neg h2]
 rw [if_neg (by decide)] at h ⊢
 unfold Lx.readS at h ⊢
 rw [if_neg (by decide), if_pos rfl] at h ⊢
 generalize bts (str (sqTwo (bts t))) = l at h ⊢
 unfold Lx.numV at h ⊢
 by_cases hk : (readR l).k = 0
 ·rw [if_pos hk]
  exact ⟨_, _, _, rfl, readR_ok hk⟩
 ·rw [if_neg hk] at h
  exact absurd h hk
theorem k3 {k : Int} (h : (3 : Int) ≠ k := by decide) : ¬(3 : Int) = k := h
theorem okV3 {n : Bool} {s : ByteArray} {S : Int} (h : okB n s S = true) : Lx.okV ⟨3, ⟨#[]⟩, false, n, s, S, Mo.nil⟩ 0 false = true := by
 unfold Lx.okV Lx.kindB
 rw [if_neg (show ¬(3 : Int) = 1 by decide), if_neg (show ¬((3 : Int) = 2 \/ (3 : Int) = 5) by decide), if_pos (show (3 : Int) = 3 from rfl), h]
 rfl
theorem order3 {n m : Bool} {s t : ByteArray} {S T : Int} (h : okB n s S = true) (h' : okB m t T = true) : Lx.orderV true true ⟨3, ⟨#[]⟩, false, n, s, S, Mo.nil⟩ ⟨3, ⟨#[]⟩, false, m, t, T, Mo.nil⟩ = (Dc.cmpD (rawD n s S) (rawD m t T), true, 0) := by
 unfold Lx.orderV
 rw [if_pos ⟨rfl, rfl, rfl, rfl⟩, if_pos (show (3 : Int) = 3 from rfl)]
 unfold cmpR
 rw [if_pos ⟨h, h'⟩]
theorem same3 (n m : Bool) (s t : ByteArray) (S T : Int) : Lx.sameB ⟨3, ⟨#[]⟩, false, n, s, S, Mo.nil⟩ ⟨3, ⟨#[]⟩, false, m, t, T, Mo.nil⟩ false = ((n == m) && (decide (s = t) && decide (S = T))) := by
 unfold Lx.sameB
 rw [if_pos (show (3 : Int) = 3 from rfl), if_neg (show ¬(3 : Int) = 4 by decide), if_neg (show ¬(3 : Int) = 6 by decide)]
 rfl
def rk (x y : Int) : Int := if x < y then -1 else if y < x then 1 else 0
theorem cmp_rk {K : Nat} {a b : Dc.D} (ha : a.2.2 <= K) (hb : b.2.2 <= K) : Dc.cmpD a b = rk (Dc.at_ K a) (Dc.at_ K b) := Dc.cmpD_at ha hb
theorem rk_neg (x y : Int) : rk y x = -rk x y := by unfold rk; repeat' split <;> omega
theorem rk_zero (x y : Int) : rk x y = 0 ↔ x = y := by unfold rk; repeat' split <;> omega
theorem rk_trans (x y z : Int) : (¬0 < rk x y -> ¬0 < rk y z -> ¬0 < rk x z) /\ (¬rk x y < 0 -> ¬rk y z < 0 -> ¬rk x z < 0) := by unfold rk; repeat' split <;> omega
theorem raw_at {K : Nat} {n m : Bool} {s t : ByteArray} {S T : Int} (h : okB n s S = true) (h' : okB m t T = true) (hS : S.toNat <= K) (hT : T.toNat <= K) : Dc.at_ K (rawD n s S) = Dc.at_ K (rawD m t T) ↔ n = m /\ s = t /\ S = T := by
 have o := okB_ok h
 have o' := okB_ok h'
 constructor
 ·intro e
  have e1 := Dc.at_canI o.can hS
  have e2 := Dc.at_canI o'.can hT
  rw [e] at e1
  have e3 : rawD n s S = rawD m t T := Option.some.inj (e1.symm.trans e2)
  unfold rawD at e3
  simp only [Prod.mk.injEq] at e3
  obtain ⟨e4, e5, e6⟩ := e3
  have h1 := o.low
  have h2 := o'.low
  refine ⟨e4, bts_inj ?_, by omega⟩
  rw [o.eq, o'.eq, e5]
 ·rintro ⟨rfl, rfl, rfl⟩; rfl

def loA : Tree := .node (.lt (.at 71) (.int 0)) yesT (.node (.lt (.at 72) (.int 0)) yesT (.node (.lt (.at 73) (.int 0)) noT yesT))
def loB : Tree := .node (.lt (.int 0) (.at 71)) loA (.node (.lt (.int 0) (.at 72)) loA (.node (.lt (.int 0) (.at 73)) noT loA))
def loC : Tree := .node (.eq (.at 71) (.neg .i64 (.neg .i64 (.at 71)))) (.node (.eq (.at 71) (.int 0)) (.node (.beq (.at 74) (.tt true)) loB noT) (.node (.beq (.at 74) (.tt false)) loB noT)) noT
def laT : Tree := .node (.eq (.at 4) (.int 0)) (.node (.eq (.at 5) (.int 0)) (.node (.eq (.at 6) (.int 0)) loC yesT) yesT) yesT
def okL : Fx := [(.eq (.at 4) (.int 0), true), (.eq (.at 5) (.int 0), true), (.eq (.at 6) (.int 0), true)]
def laC : List CallX := [⟨8, [], [], .bool true⟩, ⟨9, [it 3, xs 1], [], .tup [vaV 11 .nils, xi 4]⟩, ⟨9, [it 3, xs 2], [], .tup [vaV 31 .nils, xi 5]⟩, ⟨9, [it 3, xs 3], [], .tup [vaV 51 .nils, xi 6]⟩,
 ⟨21, [vaV 11 .nils, vaV 31 .nils], okL, .tup [xi 71, .bool true, it 0]⟩, ⟨21, [vaV 31 .nils, vaV 11 .nils], okL, .tup [.xi .i64 (.neg .i64 (.at 71)), .bool true, it 0]⟩, ⟨21, [vaV 31 .nils, vaV 51 .nils], okL, .tup [xi 72, .bool true, it 0]⟩, ⟨21, [vaV 11 .nils, vaV 51 .nils], okL, .tup [xi 73, .bool true, it 0]⟩,
 ⟨19, [vaV 11 .nils, vaV 31 .nils], okL, .tup [xb 74, it 0]⟩, ⟨19, [vaV 11 .nils, vaV 11 .nils], okL, .tup [.bool true, it 0]⟩]
theorem run_laws9 : chk (runTr Tryz.prog nG (fun _ => none) gd moT laC 100 7 [xs 1, xs 2, xs 3] h0) laT [] = true := by decide +kernel
def padL : List Value := [.bool false, .bool false, .bool false]
def laE (a b c : ByteArray) (x y z : Vl) (e f g i j k : Int) (q : Bool) : List Value := [.string a, .string b, .string c, .int .i64 e, .int .i64 f, .int .i64 g, .bool false] ++ padL ++ (x.list ++ padL ++ (y.list ++ padL ++ (z.list ++ padL ++ [.int .i64 i, .int .i64 j, .int .i64 k, .bool q])))
def OrdSays (M : Int) (x y : Vl) (i : Int) : Prop := ∀ w, Vars M w -> Calls Tryz.prog 21 #[x.val nilL, y.val nilL] w fun e w' => e = .returned (.tuple #[.int .i64 i, .bool true, .int .i64 0]) /\ Below w.heap.size w w'
def EqSays (M : Int) (x y : Vl) (q : Bool) : Prop := ∀ w, Vars M w -> Calls Tryz.prog 19 #[x.val nilL, y.val nilL] w fun e w' => e = .returned (.tuple #[.bool q, .int .i64 0]) /\ Below w.heap.size w w'
def RdSays (M : Int) (t : ByteArray) (x : Vl) (e : Int) : Prop := ∀ w, Vars M w -> Calls Tryz.prog 9 #[.int .i64 3, .string t] w fun r w' => r = .returned (.tuple #[x.val nilL, .int .i64 e]) /\ Below w.heap.size w w'
theorem laws_core (a b c : ByteArray) (x y z : Vl) (e f g i j k : Int) (q : Bool) (M : Int) (h1 : RdSays M a x e) (h2 : RdSays M b y f) (h3 : RdSays M c z g)
  (hall : e = 0 -> f = 0 -> g = 0 -> OrdSays M x y i /\ OrdSays M y x (IntKind.i64.wrap (-i)) /\ OrdSays M y z j /\ OrdSays M x z k /\ EqSays M x y q /\ EqSays M x x true /\ i = IntKind.i64.wrap (-IntKind.i64.wrap (-i)) /\ decide (i = 0) = q /\ (¬0 < i -> ¬0 < j -> ¬0 < k) /\ (¬i < 0 -> ¬j < 0 -> ¬k < 0)) (w : World) (hV : Vars M w) :
  Calls Tryz.prog 7 #[.string a, .string b, .string c] w fun e w' => e = .returned (.bool true) /\ Below w.heap.size w w' := by
 obtain ⟨E, hE⟩ : ∃ E, envE (.int .i64 M :: laE a b c x y z e f g i j k q) = E := ⟨_, rfl⟩
 have d4 : X.evB E (.eq (.at 4) (.int 0)) = decide (e = 0) := by rw [<- hE]; rfl
 have d5 : X.evB E (.eq (.at 5) (.int 0)) = decide (f = 0) := by rw [<- hE]; rfl
 have d6 : X.evB E (.eq (.at 6) (.int 0)) = decide (g = 0) := by rw [<- hE]; rfl
 have get : Fx.Ok E okL -> e = 0 /\ f = 0 /\ g = 0 := fun h => ⟨of_decide_eq_true (d4 ▸ h.1), of_decide_eq_true (d5 ▸ h.2.1), of_decide_eq_true (d6 ▸ h.2.2.1)⟩
 have a1 : (laE a b c x y z e f g i j k q).all Value.oneCell' = true := rfl
 have a2 : (V.dens L0 (envE (.int .i64 M :: laE a b c x y z e f g i j k q)) [xs 1, xs 2, xs 3]).toArray = #[.string a, .string b, .string c] := rfl
 have c1 : CallX.Ok Tryz.prog E (Vars M) ⟨8, [], [], .bool true⟩ := ⟨rfl, fk, fun _ L w hV => xshown_is w M hV⟩
 have c2 : CallX.Ok Tryz.prog E (Vars M) ⟨9, [it 3, xs 1], [], .tup [vaV 11 .nils, xi 4]⟩ := by rw [<- hE]; exact ⟨rfl, fk, fun _ L w hV => h1 w hV⟩
 have c3 : CallX.Ok Tryz.prog E (Vars M) ⟨9, [it 3, xs 2], [], .tup [vaV 31 .nils, xi 5]⟩ := by rw [<- hE]; exact ⟨rfl, fk, fun _ L w hV => h2 w hV⟩
 have c4 : CallX.Ok Tryz.prog E (Vars M) ⟨9, [it 3, xs 3], [], .tup [vaV 51 .nils, xi 6]⟩ := by rw [<- hE]; exact ⟨rfl, fk, fun _ L w hV => h3 w hV⟩
 have c5 : CallX.Ok Tryz.prog E (Vars M) ⟨21, [vaV 11 .nils, vaV 31 .nils], okL, .tup [xi 71, .bool true, it 0]⟩ := ⟨rfl, fk, fun hp L w hV => by obtain ⟨p, p', p''⟩ := get hp; have h := (hall p p' p'').1 w hV; rw [<- hE]; exact h⟩
 have c6 : CallX.Ok Tryz.prog E (Vars M) ⟨21, [vaV 31 .nils, vaV 11 .nils], okL, .tup [.xi .i64 (.neg .i64 (.at 71)), .bool true, it 0]⟩ := ⟨rfl, fk, fun hp L w hV => by obtain ⟨p, p', p''⟩ := get hp; have h := (hall p p' p'').2.1 w hV; rw [<- hE]; exact h⟩
 have c7 : CallX.Ok Tryz.prog E (Vars M) ⟨21, [vaV 31 .nils, vaV 51 .nils], okL, .tup [xi 72, .bool true, it 0]⟩ := ⟨rfl, fk, fun hp L w hV => by obtain ⟨p, p', p''⟩ := get hp; have h := (hall p p' p'').2.2.1 w hV; rw [<- hE]; exact h⟩
 have c8 : CallX.Ok Tryz.prog E (Vars M) ⟨21, [vaV 11 .nils, vaV 51 .nils], okL, .tup [xi 73, .bool true, it 0]⟩ := ⟨rfl, fk, fun hp L w hV => by obtain ⟨p, p', p''⟩ := get hp; have h := (hall p p' p'').2.2.2.1 w hV; rw [<- hE]; exact h⟩
 have c9 : CallX.Ok Tryz.prog E (Vars M) ⟨19, [vaV 11 .nils, vaV 31 .nils], okL, .tup [xb 74, it 0]⟩ := ⟨rfl, fk, fun hp L w hV => by obtain ⟨p, p', p''⟩ := get hp; have h := (hall p p' p'').2.2.2.2.1 w hV; rw [<- hE]; exact h⟩
 have c10 : CallX.Ok Tryz.prog E (Vars M) ⟨19, [vaV 11 .nils, vaV 11 .nils], okL, .tup [.bool true, it 0]⟩ := ⟨rfl, fk, fun hp L w hV => by obtain ⟨p, p', p''⟩ := get hp; have h := (hall p p' p'').2.2.2.2.2.1 w hV; rw [<- hE]; exact h⟩
 have a3 : (laT.at E).den L0 E = .bool true := by
  have dC : loC.at E = bif decide (i = IntKind.i64.wrap (-IntKind.i64.wrap (-i))) then bif decide (i = 0) then bif (q == true) then loB.at E else .bool false else bif (q == false) then loB.at E else .bool false else .bool false := by rw [<- hE]; rfl
  have dA : loA.at E = bif decide (i < 0) then V.bool true else bif decide (j < 0) then .bool true else bif decide (k < 0) then .bool false else .bool true := by rw [<- hE]; rfl
  have dB : loB.at E = bif decide (0 < i) then loA.at E else bif decide (0 < j) then loA.at E else bif decide (0 < k) then .bool false else loA.at E := by rw [<- hE]; rfl
  have dT : laT.at E = bif decide (e = 0) then bif decide (f = 0) then bif decide (g = 0) then loC.at E else .bool true else .bool true else .bool true := by rw [<- hE]; rfl
  have yes : (V.bool true).den L0 E = .bool true := rfl
  suffices h : laT.at E = .bool true by rw [h, yes]
  rw [dT]
  by_cases p : e = 0
  ·by_cases p' : f = 0
   ·by_cases p'' : g = 0
    ·obtain ⟨_, _, _, _, _, _, r1, r2, r3, r4⟩ := hall p p' p''
     have hA : ¬i < 0 /\ ¬j < 0 -> loA.at E = .bool true := fun ⟨u, v⟩ => by rw [dA, decide_eq_false u, decide_eq_false v, decide_eq_false (r4 u v)]; rfl
     have hA' : loA.at E = .bool true := by
      by_cases u : i < 0
      ·rw [dA, decide_eq_true u]; rfl
      ·by_cases v : j < 0
       ·rw [dA, decide_eq_false u, decide_eq_true v]; rfl
       ·exact hA ⟨u, v⟩
     have hB : loB.at E = .bool true := by
      rw [dB, hA']
      by_cases u : 0 < i
      ·rw [decide_eq_true u]; rfl
      ·by_cases v : 0 < j
       ·rw [decide_eq_false u, decide_eq_true v]; rfl
       ·rw [decide_eq_false u, decide_eq_false v, decide_eq_false (r3 u v)]; rfl
     rw [decide_eq_true p, decide_eq_true p', decide_eq_true p'', cond_true, cond_true, cond_true, dC, decide_eq_true r1, r2, hB]
     cases q <;> rfl
    ·rw [decide_eq_true p, decide_eq_true p', decide_eq_false p'']; rfl
   ·rw [decide_eq_true p, decide_eq_false p']; rfl
  ·rw [decide_eq_false p]; rfl
 have aAll : AllX Tryz.prog E (Vars M) laC := ⟨c1, c2, c3, c4, c5, c6, c7, c8, c9, c10, trivial⟩
 rw [<- hE] at aAll a3
 exact tree_rv run_laws9 aAll a1 trivial rfl a2 a3 hV
def cR (n : Bool) (s : ByteArray) (S : Int) (m : Bool) (t : ByteArray) (T : Int) : Int := Dc.cmpD (rawD n s S) (rawD m t T)
def v3 (n : Bool) (s : ByteArray) (S : Int) : Vl := ⟨3, ⟨#[]⟩, false, n, s, S, Mo.nil⟩
theorem v3_sz {n : Bool} {s : ByteArray} {S : Int} (h : okB n s S = true) : (v3 n s S).Sz := ⟨by show (0 : Nat) <= _; omega, by have := (okB_ok h).size; show s.size <= _; omega, by show (0 : Nat) <= _; omega⟩
theorem ord3 {n m : Bool} {s t : ByteArray} {S T : Int} (h : okB n s S = true) (h' : okB m t T = true) (M : Int) : OrdSays M (v3 n s S) (v3 m t T) (cR n s S m t T) := fun w hV => by
 have h1 := xorder_is (v3 n s S) (v3 m t T) (v3_sz h) (v3_sz h') nilL nilL 0 0 nilL_slice nilL_slice false false w M (listOk_no (by show (3 : Int) ≠ 6; decide)) (listOk_no (by show (3 : Int) ≠ 6; decide)) hV
 have e1 : Lx.okV (v3 n s S) 0 false = true := okV3 h
 have e2 : Lx.okV (v3 m t T) 0 false = true := okV3 h'
 have e3 : Lx.orderV true true (v3 n s S) (v3 m t T) = (cR n s S m t T, true, 0) := order3 h h'
 rw [e1, e2, e3] at h1
 exact h1
theorem eq3 {n m : Bool} {s t : ByteArray} {S T : Int} (h : okB n s S = true) (h' : okB m t T = true) (M : Int) : EqSays M (v3 n s S) (v3 m t T) ((n == m) && (decide (s = t) && decide (S = T))) := fun w hV => by
 have h1 := xequal_is (v3 n s S) (v3 m t T) (v3_sz h) (v3_sz h') nilL nilL 0 0 nilL_slice nilL_slice false false false w M (listOk_no (by show (3 : Int) ≠ 6; decide)) (listOk_no (by show (3 : Int) ≠ 6; decide)) (fun _ _ h => absurd h (by show (3 : Int) ≠ 6; decide)) hV
 have e1 : Lx.okV (v3 n s S) 0 false = true := okV3 h
 have e2 : Lx.okV (v3 m t T) 0 false = true := okV3 h'
 have e3 : Lx.equalV true true (v3 n s S) (v3 m t T) false = ((n == m) && (decide (s = t) && decide (S = T)), 0) := by unfold Lx.equalV; rw [if_pos ⟨rfl, rfl⟩]; exact congrArg (·, (0 : Int)) (same3 n m s t S T)
 rw [e1, e2, e3] at h1
 exact h1
theorem xlaws_is (a b c : ByteArray) (w : World) (M : Int) (hV : Vars M w) : Calls Tryz.prog 7 #[.string a, .string b, .string c] w fun e w' => e = .returned (.bool true) /\ Below w.heap.size w w' := by
 have rd : ∀ t : ByteArray, RdSays M t (Lx.readV 3 t).1 (Lx.readV 3 t).2 := fun t w hV => xread_is 3 t w M hV
 by_cases h : (Lx.readV 3 a).2 = 0 /\ (Lx.readV 3 b).2 = 0 /\ (Lx.readV 3 c).2 = 0
 ·obtain ⟨p, p', p''⟩ := h
  obtain ⟨n, s, S, ex, hx⟩ := read3 p
  obtain ⟨m, t, T, ey, hy⟩ := read3 p'
  obtain ⟨o, u, U, ez, hz⟩ := read3 p''
  have r1 := rd a
  have r2 := rd b
  have r3 := rd c
  rw [ex, p] at r1
  rw [ey, p'] at r2
  rw [ez, p''] at r3
  obtain ⟨K, hK⟩ : ∃ K, K = max S.toNat (max T.toNat U.toNat) := ⟨_, rfl⟩
  have kS : S.toNat <= K := by omega
  have kT : T.toNat <= K := by omega
  have kU : U.toNat <= K := by omega
  have cxy : cR n s S m t T = rk (Dc.at_ K (rawD n s S)) (Dc.at_ K (rawD m t T)) := cmp_rk kS kT
  have cyx : cR m t T n s S = rk (Dc.at_ K (rawD m t T)) (Dc.at_ K (rawD n s S)) := cmp_rk kT kS
  have cyz : cR m t T o u U = rk (Dc.at_ K (rawD m t T)) (Dc.at_ K (rawD o u U)) := cmp_rk kT kU
  have cxz : cR n s S o u U = rk (Dc.at_ K (rawD n s S)) (Dc.at_ K (rawD o u U)) := cmp_rk kS kU
  have rng : ∀ x y, -1 <= rk x y /\ rk x y <= 1 := fun x y => by unfold rk; repeat' split <;> omega
  have wn : ∀ x y, IntKind.i64.wrap (-rk x y) = -rk x y := fun x y => w64 (by have := rng x y; omega) (by have := rng x y; omega)
  refine laws_core a b c _ _ _ 0 0 0 (cR n s S m t T) (cR m t T o u U) (cR n s S o u U) ((n == m) && (decide (s = t) && decide (S = T))) M r1 r2 r3 (fun _ _ _ => ⟨ord3 hx hy M, ?_, ord3 hy hz M, ord3 hx hz M, eq3 hx hy M, ?_, ?_, ?_, ?_⟩) w hV
  ·rw [cxy, wn, <- rk_neg, <- cyx]; exact ord3 hy hx M
  ·have h := eq3 hx hx M
   rw [beq_self_eq_true, decide_eq_true rfl, decide_eq_true rfl] at h
   exact h
  ·rw [cxy, wn, <- rk_neg, wn, <- rk_neg]
  ·have h := (rk_zero (Dc.at_ K (rawD n s S)) (Dc.at_ K (rawD m t T))).trans (raw_at hx hy kS kT)
   rw [cxy]
   by_cases hq : n = m /\ s = t /\ S = T
   ·rw [decide_eq_true (h.2 hq), hq.1, decide_eq_true hq.2.1, decide_eq_true hq.2.2, beq_self_eq_true]; rfl
   ·rw [decide_eq_false (fun e => hq (h.1 e))]
    cases hb : ((n == m) && (decide (s = t) && decide (S = T))) with
    | false => rfl
    | true =>
     simp only [Bool.and_eq_true, beq_iff_eq, decide_eq_true_eq] at hb
     exact absurd hb hq
  ·rw [cxy, cyz, cxz]
   exact rk_trans _ _ _
 ·exact laws_core a b c _ _ _ _ _ _ 0 0 0 true M (rd a) (rd b) (rd c) (fun p p' p'' => absurd ⟨p, p', p''⟩ h) w hV
end Go.Proofs.YthoojcdjjecogaaGreatDoor
