/-
  Part 39 of the proof: what functions return, and plain facts (Xread Xpair Xlaws Xback Xptx Xrtx Xlen Xel Xopen Xshown). Conditions: each theorem names its own.
-/
import Derived.Test.YthoojcdjjecogaaGreatDoorG38
import Derived.Test.YthoojcdjjecogaaGreatDoorG18
import Derived.Test.YthoojcdjjecogaaGreatDoorG32
import Derived.Lib.Join
import Derived.Test.YthoojcdjjecogaaGreatDoorG13
import Derived.ChangeSlices
set_option maxRecDepth 1000000
set_option maxHeartbeats 16000000
namespace Go.Proofs.YthoojcdjjecogaaGreatDoor
open Go Go.RowKit Go.Ex

def tenL : X × Bool := (.lt (.int 300) (.len (.at 2)), false)
def rdX (f : Nat) (a : V) (k : Int) : CallX := ⟨f, [a, xs 5], [(.eq (.at 1) (.int k), true), tenL], .tup [vaV 6 .nils, xi 23]⟩
def rdL (y : Tree) : Tree := .node (.lt (.int 300) (.len (.at 2))) (tZ (it 3)) (.node (.eq (.at 4) (.int 0)) y (tZ (it 6)))
def rdY : Tree := .leaf (.tup [vaV 6 .nils, xi 23])
def sqS (t : ByteArray) : ByteArray := str (sqTwo (bts t))
theorem sqS_size (t : ByteArray) : (sqS t).size <= t.size := by unfold sqS; rw [str_size]; exact sqTwo_length t
def rdE (p : Int) (t : ByteArray) : List Value := [.int .i64 p, .string t, .int .i64 (decP t), .int .i64 (decI t), .string (sqS t)] ++ (Lx.readS p (sqS t)).1.list ++ [.int .i64 (Lx.readS p (sqS t)).2]
theorem rd_le {E : Nat -> Value} {t : ByteArray} (hE : E 2 = .string t) (h : X.evB E tenL.1 = tenL.2) : t.size <= 300 := by
 have h2 : decide ((300 : Int) < ((X.evS E (.at 2)).size : Int)) = false := h
 simp only [X.evS, hE] at h2
 have := of_decide_eq_false h2
 omega
theorem rdL_at (y : Tree) (p : Int) (t : ByteArray) (M : Int) (h : decide (300 < t.size) = false -> decide (wrongI t = -1) = true -> (y.at (envE (.int .i64 M :: rdE p t))).den L0 (envE (.int .i64 M :: rdE p t)) = tuV (Lx.readV p t)) (h1 : ¬(p < 1 \/ 7 < p)) :
  ((rdL y).at (envE (.int .i64 M :: rdE p t))).den L0 (envE (.int .i64 M :: rdE p t)) = tuV (Lx.readV p t) := by
 have e : (rdL y).at (envE (.int .i64 M :: rdE p t)) = bif decide ((300 : Int) < (t.size : Int)) then (tZ (it 3)).at (envE (.int .i64 M :: rdE p t)) else bif decide (decI t = 0) then y.at (envE (.int .i64 M :: rdE p t)) else (tZ (it 6)).at (envE (.int .i64 M :: rdE p t)) := rfl
 rw [e, decI_zero]
 by_cases h2 : 300 < t.size
 ·rw [decide_eq_true (by omega), cond_true, tZ_den (it 3) 3 _ rfl]; unfold Lx.readV; rw [if_neg h1, if_pos h2]
 ·rw [decide_eq_false (by omega), cond_false]
  by_cases h3 : wrongI t = -1
  ·rw [decide_eq_true h3, cond_true]; exact h (decide_eq_false h2) (decide_eq_true h3)
  ·rw [decide_eq_false h3, cond_false, tZ_den (it 6) 6 _ rfl]; unfold Lx.readV; rw [if_neg h1, if_neg h2, if_pos h3]
end Go.Proofs.YthoojcdjjecogaaGreatDoor
namespace Go.Proofs.YthoojcdjjecogaaGreatDoor
open Go Go.RowKit Go.Ex
namespace Lx
def sameB (a b : Vl) (q : Bool) : Bool := if a.k = b.k then (if a.k = 4 then (equalM a.m b.m).1 && decide ((equalM a.m b.m).2 = 0) else if a.k = 6 then q else decide (a.t = b.t) && ((a.b == b.b) && ((a.n == b.n) && (decide (a.s = b.s) && decide (a.S = b.S))))) else false
def orderV (oa ob : Bool) (a b : Vl) : Int × Bool × Int :=
 if oa = true /\ ob = true /\ a.k = b.k /\ a.m.k = b.m.k then (if a.k = 3 then ((cmpR a.n a.s a.S b.n b.s b.S).1, true, 0) else if a.k = 4 then (if (cmpM a.m b.m).2.2 = 0 /\ (cmpM a.m b.m).2.1 = true then ((cmpM a.m b.m).1, true, 0) else (0, false, 0)) else (0, false, 2)) else (0, false, 2)
end Lx
def prE (v u : Vl) (l k : Value) (x y : Int) (r : List Value) : List Value := vE v l ++ ([.int .i64 x, .bool false] ++ (vE u k ++ ([.int .i64 y] ++ r)))
theorem prE_one {v u : Vl} {l k : Value} {n m : Nat} (hl : SliceN l n) (hk : SliceN k m) (x y : Int) (r : List Value) (hr : r.all Value.oneCell' = true) : (prE v u l k x y r).all Value.oneCell' = true := by
 unfold prE
 refine vE_one v l n hl _ ?_
 rw [List.all_append]
 refine (Bool.and_eq_true _ _).symm ▸ ⟨rfl, vE_one u k m hk _ ?_⟩
 rw [List.all_append, hr]; rfl
def smT : Tree := .node (.eq (.at 1) (.at 21)) (.node (.eq (.at 1) (.int 4)) (chT [(.at 40, true), (.eq (.at 41) (.int 0), true)] yesT noT) (.node (.eq (.at 1) (.int 6)) (.leaf (xb 42)) (chT [(.seq (.at 2) (.at 22), true), (.beq (.at 3) (.at 23), true), (.beq (.at 4) (.at 24), true), (.seq (.at 5) (.at 25), true), (.eq (.at 6) (.at 26), true)] yesT noT))) noT
def smX : List CallX := [⟨79, [moV 7, moV 27], [], .tup [xb 40, xi 41]⟩, ⟨80, [.atom 18, .atom 38, .fn 41 []], [(.eq (.at 1) (.at 21), true), (.eq (.at 1) (.int 6), true)], xb 42⟩]
theorem run_same9 : chk (runTr Tryz.prog nG (fun _ => none) gd moT smX 100 41 [vaV 1 (.atom 18), vaV 21 (.atom 38)] h0) smT [(.isSl 18, true), (.isSl 38, true)] = true := by decide +kernel
def ListEq (w0 : World) (M : Int) (v u : Vl) (l k : Value) (q : Bool) : Prop := v.k = 6 -> u.k = 6 -> ∀ w, VK M w0 w -> Calls Tryz.prog 80 #[l, k, .func (.func 41) #[] #[]] w fun e w' => e = .returned (.bool q) /\ Below w.heap.size w w'
theorem ListEq.next {w0 w : World} {M : Int} {v u : Vl} {l k : Value} {q : Bool} (h : ListEq w0 M v u l k q) (hk : VK M w0 w) : ListEq w M v u l k q := fun h6 hn w' hw => h h6 hn w' ⟨hw.1, hk.2.trans hw.2⟩
theorem xsame_is (v u : Vl) (hv : v.Sz) (hu : u.Sz) (l k : Value) (n m : Nat) (hl : SliceN l n) (hk : SliceN k m) (q : Bool) (w : World) (M : Int) (hq : ListEq w M v u l k q) (hV : Vars M w) : Calls Tryz.prog 41 #[v.val l, u.val k] w fun e w' => e = .returned (.bool (Lx.sameB v u q)) /\ Below w.heap.size w w' := by
 refine tree_rk (env := prE v u l k 0 0 [.bool (equalM v.m u.m).1, .int .i64 (equalM v.m u.m).2, .bool q]) run_same9
  ⟨⟨rfl, fk, fun _ L w hV => pequalm_is v.m u.m hv.m hu.m _ _ rfl w M hV.1⟩,
   ⟨rfl, fk, fun hp L w hV => ?_⟩, trivial⟩
  (prE_one hl hk _ _ _ rfl) ⟨isSl_ok hl rfl, isSl_ok hk rfl, trivial⟩ rfl rfl ?_ hV
 ·have k1 : v.k = u.k := of_decide_eq_true (show decide (v.k = u.k) = true from hp.1)
  have k2 : v.k = 6 := of_decide_eq_true (show decide (v.k = 6) = true from hp.2.1)
  exact hq k2 (k1 ▸ k2) w hV
 ·obtain ⟨E, hE⟩ : ∃ E, envE (.int .i64 M :: prE v u l k 0 0 [.bool (equalM v.m u.m).1, .int .i64 (equalM v.m u.m).2, .bool q]) = E := ⟨_, rfl⟩
  have e : smT.at (envE (.int .i64 M :: prE v u l k 0 0 [.bool (equalM v.m u.m).1, .int .i64 (equalM v.m u.m).2, .bool q])) = bif decide (v.k = u.k) then bif decide (v.k = 4) then bif (equalM v.m u.m).1 then bif decide ((equalM v.m u.m).2 = 0) then .bool true else .bool false else .bool false else bif decide (v.k = 6) then xb 42 else
   bif decide (v.t = u.t) then bif (v.b == u.b) then bif (v.n == u.n) then bif decide (v.s = u.s) then bif decide (v.S = u.S) then .bool true else .bool false else .bool false else .bool false else .bool false else .bool false else .bool false := rfl
  rw [e]
  clear e hE
  unfold Lx.sameB
  by_cases h1 : v.k = u.k
  ·rw [decide_eq_true h1, cond_true, if_pos h1]
   by_cases h2 : v.k = 4
   ·rw [decide_eq_true h2, cond_true, if_pos h2]
    cases (equalM v.m u.m).1 <;> cases decide ((equalM v.m u.m).2 = 0) <;> rfl
   ·rw [decide_eq_false h2, cond_false, if_neg h2]
    by_cases h3 : v.k = 6
    ·rw [decide_eq_true h3, cond_true, if_pos h3]; rfl
    ·rw [decide_eq_false h3, cond_false, if_neg h3]
     cases decide (v.t = u.t) <;> cases (v.b == u.b) <;> cases (v.n == u.n) <;> cases decide (v.s = u.s) <;> cases decide (v.S = u.S) <;> rfl
  ·rw [decide_eq_false h1, cond_false, if_neg h1]; rfl
def chI (b : Bool) : Int := bif b then 0 else 2
theorem chI_zero (b : Bool) : decide (chI b = 0) = b := by cases b <;> rfl
def eqT : Tree := .node (.eq (.at 19) (.int 0)) (.node (.eq (.at 39) (.int 0)) (.leaf (.tup [xb 40, it 0])) (.leaf (.tup [.bool false, it 2]))) (.leaf (.tup [.bool false, it 2]))
def eqX : List CallX := [⟨17, [vaV 1 (.atom 18)], [], xi 19⟩, ⟨17, [vaV 21 (.atom 38)], [], xi 39⟩, ⟨41, [vaV 1 (.atom 18), vaV 21 (.atom 38)], [(.eq (.at 19) (.int 0), true), (.eq (.at 39) (.int 0), true)], xb 40⟩]
theorem run_equal9 : chk (runTr Tryz.prog nG (fun _ => none) gd moT eqX 100 19 [vaV 1 (.atom 18), vaV 21 (.atom 38)] h0) eqT [(.isSl 18, true), (.isSl 38, true)] = true := by decide +kernel
def orN : Tree := .leaf (.tup [it 0, .bool false, it 2])
def orT : Tree := .node (.eq (.at 19) (.int 0)) (.node (.eq (.at 39) (.int 0)) (.node (.eq (.at 1) (.at 21)) (.node (.eq (.at 7) (.at 27)) (.node (.eq (.at 1) (.int 3)) (.leaf (.tup [xi 40, .bool true, it 0]))
 (.node (.eq (.at 1) (.int 4)) (.node (.eq (.at 44) (.int 0)) (.node (.at 43) (.leaf (.tup [xi 42, .bool true, it 0])) (.leaf (.tup [it 0, .bool false, it 0]))) (.leaf (.tup [it 0, .bool false, it 0]))) orN)) orN) orN) orN) orN
def orX : List CallX := [⟨17, [vaV 1 (.atom 18)], [], xi 19⟩, ⟨17, [vaV 21 (.atom 38)], [], xi 39⟩, ⟨43, [deV 4, deV 24], [], .tup [xi 40, xi 41]⟩, ⟨44, [moV 7, moV 27], [], .tup [xi 42, xb 43, xi 44]⟩]
theorem run_order9 : chk (runTr Tryz.prog nG (fun _ => none) gd moT orX 100 21 [vaV 1 (.atom 18), vaV 21 (.atom 38)] h0) orT [(.isSl 18, true), (.isSl 38, true)] = true := by decide +kernel
theorem xorder_is (v u : Vl) (hv : v.Sz) (hu : u.Sz) (l k : Value) (n m : Nat) (hl : SliceN l n) (hk : SliceN k m) (c d : Bool) (w : World) (M : Int) (hc : ListOk w M v l n c) (hd : ListOk w M u k m d) (hV : Vars M w) :
  Calls Tryz.prog 21 #[v.val l, u.val k] w fun e w' => e = .returned (.tuple #[.int .i64 (Lx.orderV (Lx.okV v n c) (Lx.okV u m d) v u).1, .bool (Lx.orderV (Lx.okV v n c) (Lx.okV u m d) v u).2.1, .int .i64 (Lx.orderV (Lx.okV v n c) (Lx.okV u m d) v u).2.2]) /\ Below w.heap.size w w' := by
 refine tree_rk (env := prE v u l k (chI (Lx.okV v n c)) (chI (Lx.okV u m d)) [.int .i64 (cmpR v.n v.s v.S u.n u.s u.S).1, .int .i64 (cmpR v.n v.s v.S u.n u.s u.S).2, .int .i64 (cmpM v.m u.m).1, .bool (cmpM v.m u.m).2.1, .int .i64 (cmpM v.m u.m).2.2]) run_order9
  ⟨⟨rfl, fk, fun _ L w hV => xcheck_is v hv l n hl c w M (hc.next hV) hV.1⟩, ⟨rfl, fk, fun _ L w hV => xcheck_is u hu k m hk d w M (hd.next hV) hV.1⟩,
   ⟨rfl, fk, fun _ L w _ => pcmp_is v.n v.s v.S u.n u.s u.S hv.s hu.s _ _ rfl w⟩,
   ⟨rfl, fk, fun _ L w hV => pcmpm_is v.m u.m hv.m hu.m _ _ _ rfl w M hV.1⟩, trivial⟩ (prE_one hl hk _ _ _ rfl) ⟨isSl_ok hl rfl, isSl_ok hk rfl, trivial⟩ rfl rfl ?_ hV
 obtain ⟨nn, hnn⟩ : ∃ x : V, x = .tup [it 0, .bool false, it 2] := ⟨_, rfl⟩
 have e : orT.at (envE (.int .i64 M :: prE v u l k (chI (Lx.okV v n c)) (chI (Lx.okV u m d)) [.int .i64 (cmpR v.n v.s v.S u.n u.s u.S).1, .int .i64 (cmpR v.n v.s v.S u.n u.s u.S).2, .int .i64 (cmpM v.m u.m).1, .bool (cmpM v.m u.m).2.1, .int .i64 (cmpM v.m u.m).2.2])) = bif decide (chI (Lx.okV v n c) = 0) then bif decide (chI (Lx.okV u m d) = 0) then bif decide (v.k = u.k) then bif decide (v.m.k = u.m.k) then
  bif decide (v.k = 3) then .tup [xi 40, .bool true, it 0] else bif decide (v.k = 4) then bif decide ((cmpM v.m u.m).2.2 = 0) then bif (cmpM v.m u.m).2.1 then .tup [xi 42, .bool true, it 0] else .tup [it 0, .bool false, it 0] else .tup [it 0, .bool false, it 0] else nn else nn else nn else nn else nn := by rw [hnn]; rfl
 rw [e, chI_zero, chI_zero]
 unfold Lx.orderV
 by_cases h : Lx.okV v n c = true /\ Lx.okV u m d = true /\ v.k = u.k /\ v.m.k = u.m.k
 ·obtain ⟨h1, h2, h3, h4⟩ := h
  rw [if_pos ⟨h1, h2, h3, h4⟩, h1, h2, decide_eq_true h3, decide_eq_true h4, cond_true, cond_true, cond_true, cond_true]
  by_cases h5 : v.k = 3
  ·rw [decide_eq_true h5, cond_true, if_pos h5]; rfl
  ·rw [decide_eq_false h5, cond_false, if_neg h5]
   by_cases h6 : v.k = 4
   ·rw [decide_eq_true h6, cond_true, if_pos h6]
    by_cases h7 : (cmpM v.m u.m).2.2 = 0
    ·rw [decide_eq_true h7, cond_true]
     cases h8 : (cmpM v.m u.m).2.1 with
     | true => rw [cond_true, if_pos ⟨h7, rfl⟩]; rfl
     | false => rw [cond_false, if_neg (fun h => by cases h.2)]; rfl
    ·rw [decide_eq_false h7, cond_false, if_neg (fun h => h7 h.1)]; rfl
   ·rw [decide_eq_false h6, cond_false, if_neg h6, hnn]; rfl
 ·rw [if_neg h]
  have fin : nn.den L0 (envE (.int .i64 M :: prE v u l k (chI (Lx.okV v n c)) (chI (Lx.okV u m d)) [.int .i64 (cmpR v.n v.s v.S u.n u.s u.S).1, .int .i64 (cmpR v.n v.s v.S u.n u.s u.S).2, .int .i64 (cmpM v.m u.m).1, .bool (cmpM v.m u.m).2.1, .int .i64 (cmpM v.m u.m).2.2])) = .tuple #[.int .i64 0, .bool false, .int .i64 2] := by rw [hnn]; rfl
  cases h1 : Lx.okV v n c with
  | false => rw [h1] at fin; exact fin
  | true =>
   cases h2 : Lx.okV u m d with
   | false => rw [h1, h2] at fin; exact fin
   | true =>
    rw [h1, h2] at fin
    by_cases h3 : v.k = u.k
    ·by_cases h4 : v.m.k = u.m.k
     ·exact absurd ⟨h1, h2, h3, h4⟩ h
     ·rw [decide_eq_true h3, decide_eq_false h4]; exact fin
    ·rw [decide_eq_false h3]; exact fin
end Go.Proofs.YthoojcdjjecogaaGreatDoor
namespace Go.Proofs.YthoojcdjjecogaaGreatDoor
open Go Go.RowKit Go.Ex
theorem run_text9 : chk (runTr Tryz.prog nG (fun _ => none) gd moT [⟨17, [vaV 1 .nils], [], xi 18⟩, ⟨31, [vaV 1 .nils], [], xs 19⟩] 100 13 [vaV 1 .nils] h0) (.node (.eq (.at 18) (.int 0)) (.leaf (.tup [xs 19, it 0])) (.leaf (.tup [.str [], it 2]))) [] = true := by decide +kernel
theorem xck_of (v : Vl) (hv : v.Sz) (h6 : v.k ≠ 6) (M : Int) {o : Bool} (ho : Lx.okV v 0 false = o) (w : World) (hV : Vars M w) : Calls Tryz.prog 17 #[v.val nilL] w fun e w' => e = .returned (.int .i64 (chI o)) /\ Below w.heap.size w w' := by
 rw [<- ho]; exact xcheck_is v hv nilL 0 nilL_slice false w M (listOk_no h6) hV
theorem xtextf_is (v : Vl) (hv : v.Sz) (t : ByteArray) (ht : ∀ w M, Vars M w -> Calls Tryz.prog 31 #[v.val nilL] w fun e w' => e = .returned (.string t) /\ Below w.heap.size w w') (hk : v.k ≠ 6) (w : World) (M : Int) (hV : Vars M w) :
  Calls Tryz.prog 13 #[v.val nilL] w fun e w' => e = .returned (bif Lx.okV v 0 false then .tuple #[.string t, .int .i64 0] else .tuple #[.string ⟨#[]⟩, .int .i64 2]) /\ Below w.heap.size w w' := by
 obtain ⟨o, ho⟩ : ∃ o, Lx.okV v 0 false = o := ⟨_, rfl⟩
 have hck := xck_of v hv hk M ho
 rw [ho]
 clear ho
 have h1 : (v.list ++ [Value.int .i64 (chI o), Value.string t]).all Value.oneCell' = true := rfl
 have h2 : (V.dens L0 (envE (.int .i64 M :: (v.list ++ [.int .i64 (chI o), .string t]))) [vaV 1 .nils]).toArray = #[v.val nilL] := rfl
 have h3 : (Tree.at (envE (.int .i64 M :: (v.list ++ [.int .i64 (chI o), .string t]))) (.node (.eq (.at 18) (.int 0)) (.leaf (.tup [xs 19, it 0])) (.leaf (.tup [.str [], it 2])))).den L0 (envE (.int .i64 M :: (v.list ++ [.int .i64 (chI o), .string t]))) = bif o then Value.tuple #[.string t, .int .i64 0] else .tuple #[.string ⟨#[]⟩, .int .i64 2] := by
  show (bif decide (chI o = 0) then V.tup [xs 19, it 0] else V.tup [.str [], it 2]).den L0 _ = _
  rw [chI_zero]
  cases o <;> rfl
 have h4 : AllX Tryz.prog (envE (.int .i64 M :: (v.list ++ [.int .i64 (chI o), .string t]))) (Vars M) [⟨17, [vaV 1 .nils], [], xi 18⟩, ⟨31, [vaV 1 .nils], [], xs 19⟩] := ⟨⟨rfl, fk, fun _ L w hV => hck w hV⟩, ⟨rfl, fk, fun _ L w hV => ht w M hV⟩, trivial⟩
 exact tree_rv run_text9 h4 h1 trivial rfl h2 h3 hV
def leT : Tree := .node (.eq (.at 18) (.int 0)) (.node (.eq (.at 1) (.int 5)) (.leaf (.tup [.xi .i64 (.len (.at 2)), it 0])) (.leaf (.tup [it 0, it 2]))) (.leaf (.tup [it 0, it 2]))
theorem run_len9 : chk (runTr Tryz.prog nG (fun _ => none) gd moT [⟨17, [vaV 1 .nils], [], xi 18⟩] 100 15 [vaV 1 .nils] h0) leT [(.eq (.at 1) (.int 1), false), (.eq (.at 1) (.int 6), false)] = true := by decide +kernel
theorem xlength_is (v : Vl) (hv : v.Sz) (h1 : v.k ≠ 1) (h6 : v.k ≠ 6) (w : World) (M : Int) (hV : Vars M w) : Calls Tryz.prog 15 #[v.val nilL] w fun e w' => e = .returned (bif Lx.okV v 0 false && decide (v.k = 5) then .tuple #[.int .i64 v.t.size, .int .i64 0] else .tuple #[.int .i64 0, .int .i64 2]) /\ Below w.heap.size w w' := by
 obtain ⟨o, ho⟩ : ∃ o, Lx.okV v 0 false = o := ⟨_, rfl⟩
 have hck := xck_of v hv h6 M ho
 rw [ho]
 clear ho
 have a1 : (v.list ++ [Value.int .i64 (chI o)]).all Value.oneCell' = true := rfl
 have a2 : (V.dens L0 (envE (.int .i64 M :: (v.list ++ [.int .i64 (chI o)]))) [vaV 1 .nils]).toArray = #[v.val nilL] := rfl
 have a3 : (leT.at (envE (.int .i64 M :: (v.list ++ [.int .i64 (chI o)])))).den L0 (envE (.int .i64 M :: (v.list ++ [.int .i64 (chI o)]))) = bif o && decide (v.k = 5) then Value.tuple #[.int .i64 v.t.size, .int .i64 0] else .tuple #[.int .i64 0, .int .i64 2] := by
  show (bif decide (chI o = 0) then bif decide (v.k = 5) then V.tup [.xi .i64 (.len (.at 2)), it 0] else V.tup [it 0, it 2] else V.tup [it 0, it 2]).den L0 _ = _
  rw [chI_zero]
  cases o <;> cases decide (v.k = 5) <;> rfl
 have a4 : AllX Tryz.prog (envE (.int .i64 M :: (v.list ++ [.int .i64 (chI o)]))) (Vars M) [⟨17, [vaV 1 .nils], [], xi 18⟩] := ⟨⟨rfl, fk, fun _ L w hV => hck w hV⟩, trivial⟩
 have a5 : Fx.Ok (envE (.int .i64 M :: (v.list ++ [.int .i64 (chI o)]))) [(.eq (.at 1) (.int 1), false), (.eq (.at 1) (.int 6), false)] := ⟨decide_eq_false h1, decide_eq_false h6, trivial⟩
 exact tree_rv run_len9 a4 a1 a5 rfl a2 a3 hV
def sA : ByteArray := ⟨#[32, 43, 48, 48, 55, 46, 53, 48, 32]⟩
def vA : Vl := ⟨3, ⟨#[]⟩, false, false, ⟨#[55, 53]⟩, 1, Mo.nil⟩
def vB : Vl := ⟨5, ⟨#[10, 255]⟩, false, false, ⟨#[]⟩, 0, Mo.nil⟩
def vC : Vl := ⟨2, ⟨#[]⟩, true, false, ⟨#[]⟩, 0, Mo.nil⟩
theorem read_A : Lx.readV 3 sA = (vA, 0) := by kernel_rfl
theorem read_dot : Lx.readV 3 ⟨#[46]⟩ = (Lx.zero, 6) := by kernel_rfl
theorem read_B : Lx.readV 7 ⟨#[48, 97, 102, 102]⟩ = (vB, 0) := by kernel_rfl
theorem read_C : Lx.readV 2 ⟨#[49]⟩ = (vC, 0) := by kernel_rfl
theorem ok_A : Lx.okV vA 0 false = true := by kernel_rfl
theorem ok_B : Lx.okV vB 0 false = true := by kernel_rfl
theorem ok_Z : Lx.okV Lx.zero 0 false = false := by kernel_rfl
def zv : V := vl (it 0) (.str []) (.bool false) (.bool false) (.str []) (it 0) mo0 .nils
def shA : V := vl (it 3) (.str []) (.bool false) (.bool false) (.str [55, 53]) (it 1) mo0 .nils
def shB : V := vl (it 5) (.str [10, 255]) (.bool false) (.bool false) (.str []) (it 0) mo0 .nils
def shC : V := vl (it 2) (.str []) (.bool true) (.bool false) (.str []) (it 0) mo0 .nils
def shX : List CallX := [⟨9, [it 3, .str [32, 43, 48, 48, 55, 46, 53, 48, 32]], [], .tup [shA, it 0]⟩, ⟨9, [it 3, .str [46]], [], .tup [zv, it 6]⟩, ⟨9, [it 7, .str [48, 97, 102, 102]], [], .tup [shB, it 0]⟩, ⟨13, [shB], [], .tup [.str [48, 65, 70, 70], it 0]⟩, ⟨15, [shB], [], .tup [it 2, it 0]⟩, ⟨9, [it 2, .str [49]], [], .tup [shC, it 0]⟩, ⟨17, [shA], [], it 0⟩, ⟨17, [zv], [], it 2⟩]
theorem run_shown9 : chk (runTr Tryz.prog nG (fun _ => none) gd moT shX 100 8 [] h0) yesT [] = true := by decide +kernel
theorem small_sz (v : Vl) (h1 : v.t.size <= 100000 := by decide) (h2 : v.s.size <= 1000000 := by decide) (h3 : v.m.s.size <= 1000000 := by decide) : v.Sz := ⟨h1, h2, h3⟩
theorem k3 {k : Int} (h : (3 : Int) ≠ k := by decide) : ¬(3 : Int) = k := h
end Go.Proofs.YthoojcdjjecogaaGreatDoor
namespace Go.Proofs.YthoojcdjjecogaaGreatDoor
open Go Go.RowKit
namespace Lx
end Lx
end Go.Proofs.YthoojcdjjecogaaGreatDoor
namespace Go.Proofs.YthoojcdjjecogaaGreatDoor
open Go Go.RowKit Go.Ex
def lnE (v : Vl) (l : Value) (o : Bool) : List Value := vE v l ++ [.int .i64 (chI o)]
def cl1T : Tree := .node (.eq (.at 1) (.int 6)) (.leaf (.bool true)) (.node (.eq (.at 19) (.int 0)) (.leaf (.bool false)) (.leaf (.bool true)))
theorem run_clos : chk (runTr Tryz.prog nG (fun _ => none) gd moT [⟨17, [vaV 1 (.atom 18)], [(.eq (.at 1) (.int 6), false)], xi 19⟩] 100 37 [vaV 1 (.atom 18)] h0) cl1T [(.isSl 18, true)] = true := by decide +kernel
theorem xclos_is (v : Vl) (hv : v.Sz) (l : Value) (n : Nat) (hl : SliceN l n) (w : World) (M : Int) (hV : Vars M w) : Calls Tryz.prog 37 #[v.val l] w fun e w' => e = .returned (.bool (decide (v.k = 6) || !Lx.okV v n false)) /\ Below w.heap.size w w' := by
 obtain ⟨o, ho⟩ : ∃ o, Lx.okV v n false = o := ⟨_, rfl⟩
 have hone : (lnE v l o).all Value.oneCell' = true := vE_one v l n hl _ rfl
 have hs : X.evB (envE (.int .i64 M :: lnE v l o)) (.isSl 18) = true := isSl_ok hl rfl
 have a3 : (cl1T.at (envE (.int .i64 M :: lnE v l o))).den L0 (envE (.int .i64 M :: lnE v l o)) = .bool (decide (v.k = 6) || !o) := by
  have e : cl1T.at (envE (.int .i64 M :: lnE v l o)) = bif decide (v.k = 6) then V.bool true else bif decide (chI o = 0) then .bool false else .bool true := rfl
  rw [e, chI_zero]
  cases decide (v.k = 6) <;> cases o <;> rfl
 have c1 : CallX.Ok Tryz.prog (envE (.int .i64 M :: lnE v l o)) (Vars M) ⟨17, [vaV 1 (.atom 18)], [(.eq (.at 1) (.int 6), false)], xi 19⟩ := ⟨rfl, fk, fun hp L w' hV => by
  have h6 : decide (v.k = 6) = false := hp.1
  have q := xcheck_is v hv l n hl false w' M (listOk_no (of_decide_eq_false h6)) hV
  rw [ho] at q
  exact q⟩
 rw [ho]
 exact tree_rv run_clos ⟨c1, trivial⟩ hone ⟨hs, trivial⟩ rfl rfl a3 hV
end Go.Proofs.YthoojcdjjecogaaGreatDoor
namespace Go.Proofs.YthoojcdjjecogaaGreatDoor
open Go Go.RowKit Go.Ex

structure El where
 v : Vl
 l : Value
 n : Nat
instance : Inhabited El := ⟨⟨Lx.zero, nilL, 0⟩⟩
def El.enc (e : El) : List Value := vE e.v e.l
def El.val (e : El) : Value := e.v.val e.l
theorem El.enc_length (e : El) : e.enc.length = 18 := rfl
structure Holds (w : World) (b off : Nat) (es : List El) : Prop where
 lt : b < w.heap.size
 cell : ∀ j e, es[j]? = some e -> ∀ i v, e.enc[i]? = some v -> w.cell? ⟨b, off + j * 18 + i, none⟩ = some v
def Lst (w : World) (l : Value) (es : List El) : Prop := (es = [] /\ ∃ a c, l = .slice a 0 c) \/ ∃ b off c, l = .slice (some ⟨b, off, none⟩) es.length c /\ Holds w b off es
theorem Lst.slice {w : World} {l : Value} {es : List El} (h : Lst w l es) : SliceN l es.length := by
 rcases h with ⟨rfl, a, c, rfl⟩ | ⟨b, off, c, rfl, _⟩
 ·exact ⟨a, c, rfl⟩
 ·exact ⟨_, c, rfl⟩
theorem keeps_cell {w w' : World} (h : Keeps w w') {b o : Nat} (hb : b < w.heap.size) : w'.cell? ⟨b, o, none⟩ = w.cell? ⟨b, o, none⟩ := by
 unfold World.cell?
 rw [h.block b hb]
theorem Holds.keep {w w' : World} {b off : Nat} {es : List El} (h : Holds w b off es) (hk : Keeps w w') : Holds w' b off es :=
 ⟨Nat.lt_of_lt_of_le h.lt hk.size, fun j e he i v hv => (keeps_cell hk h.lt).trans (h.cell j e he i v hv)⟩
theorem Lst.keep {w w' : World} {l : Value} {es : List El} (h : Lst w l es) (hk : Keeps w w') : Lst w' l es := by
 rcases h with h | ⟨b, off, c, e, h⟩
 ·exact .inl h
 ·exact .inr ⟨b, off, c, e, h.keep hk⟩
def Deep (w : World) (l : Value) (es : List El) : Prop := Lst w l es /\ ∀ e ∈ es, SliceN e.l e.n /\ ∃ fs, Lst w e.l fs /\ ∀ f ∈ fs, SliceN f.l f.n
structure El.Sz (e : El) : Prop where
 v : e.v.Sz
 l : SliceN e.l e.n
namespace Lx
def badE (e : El) : Bool := decide (e.v.k = 6) || !okV e.v e.n false
def badL (es : List El) : Bool := es.any badE
end Lx
end Go.Proofs.YthoojcdjjecogaaGreatDoor
namespace Go.Proofs.YthoojcdjjecogaaGreatDoor
open Go.ChangeShapes Go.WideShapes Go.ChangeAt Go.ChangeMaps Go.RowKit

theorem list_choose {α : Type} (Q : Nat -> α -> Prop) : ∀ n, (∀ j, j < n -> ∃ e, Q j e) -> ∃ es : List α, es.length = n /\ ∀ j e, es[j]? = some e -> Q j e
 | 0, _ => ⟨[], rfl, fun j e h => by simp at h⟩
 | n + 1, h => by
  obtain ⟨es, hl, hes⟩ := list_choose Q n fun j hj => h j (by omega)
  obtain ⟨e, he⟩ := h n (by omega)
  refine ⟨es ++ [e], by simp [hl], fun j x hx => ?_⟩
  by_cases hj : j < n
  ·rw [List.getElem?_append_left (by omega)] at hx
   exact hes j x hx
  ·have hlt := (List.getElem?_eq_some_iff.1 hx).1
   rw [List.length_append, hl] at hlt
   have hjn : j = n := by simp at hlt; omega
   subst hjn
   rw [List.getElem?_append_right (by omega), hl, Nat.sub_self] at hx
   simp at hx
   rw [<- hx]
   exact he
section
variable {H : Type} {enc : TypeId × Value -> H} {W : World} {base : Nat} {sp : Nat -> Bool} {held : Bool}
set_option maxRecDepth 100000
theorem dec_cells {fuel : Nat} {cs : List Value} {x : DataW H × List MemPlace} (h : DataW.trod enc Tryz.prog W base sp held fuel 24 cs = some x) : ∃ (n : Bool) (s : ByteArray) (S : Int), cs = [.bool n, .string s, .int .i64 S] := by
 obtain ⟨xs, n, _, _, hsz, hlen, hfs⟩ := DataW.trod_struct Tryz.underlying24 h
 rw [decCells] at hsz
 obtain ⟨x0, h0⟩ : ∃ x, xs[0]? = some x := ⟨_, List.getElem?_eq_getElem (by rw [hlen]; decide)⟩
 obtain ⟨x1, h1⟩ : ∃ x, xs[1]? = some x := ⟨_, List.getElem?_eq_getElem (by rw [hlen]; decide)⟩
 obtain ⟨x2, h2⟩ : ∃ x, xs[2]? = some x := ⟨_, List.getElem?_eq_getElem (by rw [hlen]; decide)⟩
 have e0 : DataW.trod enc Tryz.prog W base sp held n 4 ((cs.drop 0).take (Tryz.prog.cellsOf 4)) = some x0 := (hfs 0 _ rfl).trans h0
 rw [boolCells] at e0
 have e1 : DataW.trod enc Tryz.prog W base sp held n 9 ((cs.drop 1).take (Tryz.prog.cellsOf 9)) = some x1 := (hfs 1 _ rfl).trans h1
 rw [strCellsN] at e1
 have e2 : DataW.trod enc Tryz.prog W base sp held n 3 ((cs.drop 2).take (Tryz.prog.cellsOf 3)) = some x2 := (hfs 2 _ rfl).trans h2
 rw [intCells] at e2
 obtain ⟨b, hb, _⟩ := DataW.trod_bool Tryz.underlying4 e0
 obtain ⟨s, hs, _, hsl⟩ := DataW.trod_string Tryz.underlying9 e1
 obtain ⟨S, hS, _⟩ := DataW.trod_int Tryz.underlying3 e2
 refine ⟨b, s, S, ?_⟩
 clear h hfs e0 e1 e2
 match cs, hsz with
 | [a, b', c], _ => simp_all
theorem mo_cells {fuel : Nat} {cs : List Value} {x : DataW H × List MemPlace} (h : DataW.trod enc Tryz.prog W base sp held fuel 26 cs = some x) : ∃ m : Mo, cs = m.list := by
 obtain ⟨xs, n, _, _, hsz, hlen, hfs⟩ := DataW.trod_struct Tryz.underlying26 h
 rw [momCells] at hsz
 have hx : ∀ i, i < 9 -> ∃ x, xs[i]? = some x := fun i hi => ⟨_, List.getElem?_eq_getElem (by rw [hlen]; exact hi)⟩
 obtain ⟨x0, h0⟩ := hx 0 (by decide)
 obtain ⟨x1, h1⟩ := hx 1 (by decide)
 obtain ⟨x2, h2⟩ := hx 2 (by decide)
 obtain ⟨x3, h3⟩ := hx 3 (by decide)
 obtain ⟨x4, h4⟩ := hx 4 (by decide)
 obtain ⟨x5, h5⟩ := hx 5 (by decide)
 obtain ⟨x6, h6⟩ := hx 6 (by decide)
 obtain ⟨x7, h7⟩ := hx 7 (by decide)
 obtain ⟨x8, h8⟩ := hx 8 (by decide)
 have e0 : DataW.trod enc Tryz.prog W base sp held n 3 ((cs.drop 0).take (Tryz.prog.cellsOf 3)) = some x0 := (hfs 0 _ rfl).trans h0
 have e1 : DataW.trod enc Tryz.prog W base sp held n 3 ((cs.drop 1).take (Tryz.prog.cellsOf 3)) = some x1 := (hfs 1 _ rfl).trans h1
 have e2 : DataW.trod enc Tryz.prog W base sp held n 3 ((cs.drop 2).take (Tryz.prog.cellsOf 3)) = some x2 := (hfs 2 _ rfl).trans h2
 have e3 : DataW.trod enc Tryz.prog W base sp held n 3 ((cs.drop 3).take (Tryz.prog.cellsOf 3)) = some x3 := (hfs 3 _ rfl).trans h3
 have e4 : DataW.trod enc Tryz.prog W base sp held n 3 ((cs.drop 4).take (Tryz.prog.cellsOf 3)) = some x4 := (hfs 4 _ rfl).trans h4
 have e5 : DataW.trod enc Tryz.prog W base sp held n 3 ((cs.drop 5).take (Tryz.prog.cellsOf 3)) = some x5 := (hfs 5 _ rfl).trans h5
 have e6 : DataW.trod enc Tryz.prog W base sp held n 24 ((cs.drop 6).take (Tryz.prog.cellsOf 24)) = some x6 := (hfs 6 _ rfl).trans h6
 have e7 : DataW.trod enc Tryz.prog W base sp held n 4 ((cs.drop 9).take (Tryz.prog.cellsOf 4)) = some x7 := (hfs 7 _ rfl).trans h7
 have e8 : DataW.trod enc Tryz.prog W base sp held n 3 ((cs.drop 10).take (Tryz.prog.cellsOf 3)) = some x8 := (hfs 8 _ rfl).trans h8
 rw [intCells] at e0 e1 e2 e3 e4 e5 e8
 rw [decCells] at e6
 rw [boolCells] at e7
 obtain ⟨q0, f0, _⟩ := DataW.trod_int Tryz.underlying3 e0
 obtain ⟨q1, f1, _⟩ := DataW.trod_int Tryz.underlying3 e1
 obtain ⟨q2, f2, _⟩ := DataW.trod_int Tryz.underlying3 e2
 obtain ⟨q3, f3, _⟩ := DataW.trod_int Tryz.underlying3 e3
 obtain ⟨q4, f4, _⟩ := DataW.trod_int Tryz.underlying3 e4
 obtain ⟨q5, f5, _⟩ := DataW.trod_int Tryz.underlying3 e5
 obtain ⟨b, s, S, f6⟩ := dec_cells e6
 obtain ⟨q7, f7, _⟩ := DataW.trod_bool Tryz.underlying4 e7
 obtain ⟨q8, f8, _⟩ := DataW.trod_int Tryz.underlying3 e8
 refine ⟨⟨q0, q1, q2, q3, q4, q5, b, s, S, q7, q8⟩, ?_⟩
 clear h hfs e0 e1 e2 e3 e4 e5 e6 e7 e8
 match cs, hsz with
 | [_, _, _, _, _, _, _, _, _, _, _], _ =>
  simp only [List.drop_zero, List.drop_succ_cons, List.take_succ_cons, List.take_zero, List.cons.injEq, and_true] at f0 f1 f2 f3 f4 f5 f6 f7 f8
  obtain ⟨f6, g6, k6⟩ := f6
  subst f0 f1 f2 f3 f4 f5 f6 g6 k6 f7 f8
  rfl
theorem valCells : Tryz.prog.cellsOf 29 = 18 := by kernel_rfl
theorem vlsCells : Tryz.prog.cellsOf 27 = 1 := by kernel_rfl
theorem va_cells {fuel : Nat} {cs : List Value} {x : DataW H × List MemPlace} (h : DataW.trod enc Tryz.prog W base sp held fuel 29 cs = some x) :
  ∃ (v : Vl) (l : Value) (n : Nat) (y : DataW H × List MemPlace), cs = vE v l /\ DataW.trod enc Tryz.prog W base sp held n 27 [l] = some y := by
 obtain ⟨xs, n, _, _, hsz, hlen, hfs⟩ := DataW.trod_struct Tryz.underlying29 h
 rw [valCells] at hsz
 have hx : ∀ i, i < 6 -> ∃ x, xs[i]? = some x := fun i hi => ⟨_, List.getElem?_eq_getElem (by rw [hlen]; exact hi)⟩
 obtain ⟨x0, h0⟩ := hx 0 (by decide)
 obtain ⟨x1, h1⟩ := hx 1 (by decide)
 obtain ⟨x2, h2⟩ := hx 2 (by decide)
 obtain ⟨x3, h3⟩ := hx 3 (by decide)
 obtain ⟨x4, h4⟩ := hx 4 (by decide)
 obtain ⟨x5, h5⟩ := hx 5 (by decide)
 have e0 : DataW.trod enc Tryz.prog W base sp held n 3 ((cs.drop 0).take (Tryz.prog.cellsOf 3)) = some x0 := (hfs 0 _ rfl).trans h0
 have e1 : DataW.trod enc Tryz.prog W base sp held n 9 ((cs.drop 1).take (Tryz.prog.cellsOf 9)) = some x1 := (hfs 1 _ rfl).trans h1
 have e2 : DataW.trod enc Tryz.prog W base sp held n 4 ((cs.drop 2).take (Tryz.prog.cellsOf 4)) = some x2 := (hfs 2 _ rfl).trans h2
 have e3 : DataW.trod enc Tryz.prog W base sp held n 24 ((cs.drop 3).take (Tryz.prog.cellsOf 24)) = some x3 := (hfs 3 _ rfl).trans h3
 have e4 : DataW.trod enc Tryz.prog W base sp held n 26 ((cs.drop 6).take (Tryz.prog.cellsOf 26)) = some x4 := (hfs 4 _ rfl).trans h4
 have e5 : DataW.trod enc Tryz.prog W base sp held n 27 ((cs.drop 17).take (Tryz.prog.cellsOf 27)) = some x5 := (hfs 5 _ rfl).trans h5
 rw [intCells] at e0
 rw [strCellsN] at e1
 rw [boolCells] at e2
 rw [decCells] at e3
 rw [momCells] at e4
 rw [vlsCells] at e5
 obtain ⟨q0, f0, _⟩ := DataW.trod_int Tryz.underlying3 e0
 obtain ⟨q1, f1, _, _⟩ := DataW.trod_string Tryz.underlying9 e1
 obtain ⟨q2, f2, _⟩ := DataW.trod_bool Tryz.underlying4 e2
 obtain ⟨b, s, S, f3⟩ := dec_cells e3
 obtain ⟨m, f4⟩ := mo_cells e4
 clear h hfs e0 e1 e2 e3 e4
 match cs, hsz with
 | [_, _, _, _, _, _, _, _, _, _, _, _, _, _, _, _, _, l], _ =>
  simp only [List.drop_zero, List.drop_succ_cons, List.take_succ_cons, List.take_zero, List.cons.injEq, and_true] at f0 f1 f2 f3 f4 e5
  obtain ⟨f3, g3, k3⟩ := f3
  subst f0 f1 f2 f3 g3 k3
  refine ⟨⟨q0, q1, q2, b, s, S, m⟩, l, n, x5, ?_, e5⟩
  unfold vE Vl.list
  rw [<- f4]
  rfl
theorem open_list {fuel : Nat} {l : Value} {x : DataW H × List MemPlace} (h : DataW.trod enc Tryz.prog W base sp held fuel 27 [l] = some x) :
  ∃ es : List El, Lst W l es /\ ∀ e ∈ es, SliceN e.l e.n /\ ∃ (n : Nat) (y : DataW H × List MemPlace), DataW.trod enc Tryz.prog W base sp held n 27 [e.l] = some y := by
 rcases DataW.trod_slice Tryz.underlying27 h with ⟨hcs, _⟩ | ⟨a, len, cap, elems, rest, n, _, hcs, _, _, _, _, hel, helem, _, _⟩
 ·simp only [List.cons.injEq, and_true] at hcs
  exact ⟨[], .inl ⟨rfl, none, 0, hcs⟩, fun e he => absurd he List.not_mem_nil⟩
 ·simp only [List.cons.injEq, and_true] at hcs
  subst hcs
  rw [valCells] at helem
  have one : ∀ j, j < len -> ∃ e : El, World.cells? W base (a.add (j * 18)) 18 = some e.enc /\ SliceN e.l e.n /\ ∃ (n : Nat) (y : DataW H × List MemPlace), DataW.trod enc Tryz.prog W base sp held n 27 [e.l] = some y := by
   intro j hj
   have q := helem j hj
   rw [List.getElem?_eq_getElem (by omega)] at q
   obtain ⟨cs, hc, ht⟩ := Option.bind_eq_some_iff.1 q
   obtain ⟨v, l', n', y, rfl, hy⟩ := va_cells ht
   have hs : ∃ k, SliceN l' k := by
    rcases DataW.trod_slice Tryz.underlying27 hy with ⟨hcs, _⟩ | ⟨a', len', cap', _, _, _, _, hcs, _⟩
    ·simp only [List.cons.injEq, and_true] at hcs
     exact ⟨0, none, 0, hcs⟩
    ·simp only [List.cons.injEq, and_true] at hcs
     exact ⟨len', _, _, hcs⟩
   obtain ⟨k, hk⟩ := hs
   exact ⟨⟨v, l', k⟩, hc, hk, n', y, hy⟩
  obtain ⟨es, hl, hes⟩ := list_choose _ len one
  refine ⟨es, ?_, fun e he => ?_⟩
  ·by_cases h0 : len = 0
   ·subst h0
    exact .inl ⟨List.length_eq_zero_iff.1 hl, some a, cap, rfl⟩
   ·obtain ⟨b, off, spot⟩ := a
    have cellAt : ∀ j e, es[j]? = some e -> ∀ i v, e.enc[i]? = some v -> W.cell? (((⟨b, off, spot⟩ : Addr).add (j * 18)).add i) = some v := by
     intro j e he i v hv
     have q := (hes j e he).1
     unfold World.cells? at q
     split at q
     ·have hi : i < 18 := by have := (List.getElem?_eq_some_iff.1 hv).1; rw [El.enc_length] at this; exact this
      have := mapM_some_get q i i (by simp [hi])
      rw [this]
      exact hv
     ·cases q
    obtain ⟨e0, he0⟩ : ∃ e, es[0]? = some e := ⟨_, List.getElem?_eq_getElem (by omega)⟩
    have g0 := cellAt 0 e0 he0 0 _ rfl
    have hspot : spot = none := by simpa [Addr.add] using World.cell?_spot g0
    subst hspot
    have ad : ∀ o n : Nat, (⟨b, o, none⟩ : Addr).add n = ⟨b, o + n, none⟩ := fun o n => by
     unfold Addr.add
     split
     ·rename_i h; rw [h]; rfl
     ·rfl
    have hat : ∀ j i : Nat, ((⟨b, off, none⟩ : Addr).add (j * 18)).add i = ⟨b, off + j * 18 + i, none⟩ := fun j i => by rw [ad, ad]
    have hb : b < W.heap.size := by
     rw [hat 0] at g0
     rcases Nat.lt_or_ge b W.heap.size with h | h
     ·exact h
     ·rw [World.cell?, Array.getElem?_eq_none h] at g0; cases g0
    exact .inr ⟨b, off, cap, by rw [hl], hb, fun j e he i v hv => by rw [<- hat]; exact cellAt j e he i v hv⟩
  ·obtain ⟨j, hj⟩ := List.getElem?_of_mem he
   exact (hes j e hj).2
end
theorem open_va {H : Type} {enc : TypeId × Value -> H} {W : World} {r : Reach} {b0 base : Nat} {sp : Nat -> Bool} {held : Bool} {v : Value} {d : DataW H} {ps : List MemPlace} (hval : Value.okWide Tryz.prog W r b0 29 v) (hd : DataW.Trod enc Tryz.prog W base sp held 29 v d ps) :
  ∃ (x : Vl) (l : Value) (es : List El), v = x.val l /\ Deep W l es := by
 obtain ⟨cs, rfl, hsz⟩ := okWide_struct Tryz.underlying29 hval
 obtain ⟨fuel, hf⟩ := hd
 obtain ⟨x, l, n, y, hc, hy⟩ := va_cells hf
 obtain ⟨es, hl, hes⟩ := open_list hy
 refine ⟨x, l, es, ?_, hl, fun e he => ?_⟩
 ·show Value.agg cs = .agg _
  congr 1
  have : cs.toList = vE x l := hc
  rw [show x.list ++ [l] = cs.toList from this.symm, Array.toArray_toList]
 ·obtain ⟨h1, n', y', h2⟩ := hes e he
  obtain ⟨fs, hfs, hfs2⟩ := open_list h2
  exact ⟨h1, fs, hfs, fun f hf => (hfs2 f hf).1⟩
end Go.Proofs.YthoojcdjjecogaaGreatDoor
namespace Go.Proofs.YthoojcdjjecogaaGreatDoor
open Go Go.RowKit Go.Ex

def rdC3 : List CallX := [⟨24, [xs 2], [tenL], .tup [.junk 0, xi 3, xi 4]⟩, ⟨25, [xs 2, it 2], [(.eq (.at 4) (.int 0), true), tenL], .tup [xs 5, it 0]⟩, rdX 228 (.agg []) 2, rdX 229 (.agg []) 3, rdX 254 (.agg []) 7]
theorem run_read3 : ∀ k ∈ [(2 : Int), 3, 7], chk (runTr Tryz.prog nG (fun _ => none) gd moT rdC3 100 9 [it k, xs 2] h0) (rdL rdY) [(.eq (.at 1) (.int k), true)] = true := by decide +kernel
theorem rdC3_ok (p : Int) (t : ByteArray) (M : Int) : AllX Tryz.prog (envE (.int .i64 M :: rdE p t)) (Vars M) rdC3 := by
 have hE : envE (.int .i64 M :: rdE p t) 2 = .string t := rfl
 have one : ∀ (f : Nat) (a : V) (av : Value) (k : Int) (hf : ∃ fn, Tryz.prog.funcs[f]? = some fn /\ (fn.name == "runtime.NumGoroutine") = false /\ fn.body.isNone = false) (ha : ∀ L, a.den L (envE (.int .i64 M :: rdE p t)) = av),
   (∀ w, p = k -> t.size <= 300 -> Vars M w -> Calls Tryz.prog f #[av, .string (sqS t)] w fun e w' => e = .returned (tuV (Lx.readS p (sqS t))) /\ Below w.heap.size w w') -> CallX.Ok Tryz.prog (envE (.int .i64 M :: rdE p t)) (Vars M) (rdX f a k) := fun f a av k hf ha h => by
  refine ⟨rfl, hf, fun hp L w hV => ?_⟩
  have e1 : V.dens L (envE (.int .i64 M :: rdE p t)) [a, xs 5] = [av, .string (sqS t)] := by simp only [V.dens, ha]; rfl
  show Calls _ _ (V.dens L (envE (.int .i64 M :: rdE p t)) [a, xs 5]).toArray w fun q w' => q = .returned (tuV (Lx.readS p (sqS t))) /\ Below w.heap.size w w'
  rw [e1]
  exact h w (of_decide_eq_true (show decide (p = k) = true from hp.1)) (rd_le hE hp.2.1) hV
 refine ⟨pdec_ok _ (fun hp => by have := rd_le hE hp.1; omega) rfl rfl rfl, ⟨rfl, fk, fun hp L w hV => ?_⟩,
  one _ _ (.agg #[]) 2 fk (fun _ => rfl) fun w hk _ _ => ?_,
  one _ _ (.agg #[]) 3 fk (fun _ => rfl) fun w hk ht hV => ?_,
  one _ _ (.agg #[]) 7 fk (fun _ => rfl) fun w hk ht hV => ?_, trivial⟩
 ·have h0 : decide (decI t = 0) = true := hp.1
  rw [decI_zero] at h0
  have ht := rd_le hE hp.2.1
  exact f22_2 t (by omega) w hV.rng M (by obtain ⟨lo, hi, h1, _⟩ := hV.row0; simp [World.cell?, h1]) (of_decide_eq_true h0)
 ·subst hk; exact xtruth_is (sqS t) w
 ·subst hk; have := sqS_size t; exact xnum_is (sqS t) (by omega) w M hV
 ·subst hk; have := sqS_size t; exact xhexr_is (sqS t) (by omega) w
theorem xread3_is (p : Int) (hp : p ∈ [(2 : Int), 3, 7]) (t : ByteArray) (w : World) (M : Int) (hV : Vars M w) : Calls Tryz.prog 9 #[.int .i64 p, .string t] w fun e w' => e = .returned (tuV (Lx.readV p t)) /\ Below w.heap.size w w' := by
 have h7 : p = 2 \/ p = 3 \/ p = 7 := by simpa using hp
 refine tree_rv (env := rdE p t) (run_read3 p hp) (rdC3_ok p t M) (by unfold rdE; rw [List.all_append, List.all_append]; rfl) ⟨decide_eq_true rfl, trivial⟩ rfl rfl ?_ hV
 refine rdL_at rdY p t M (fun h2 h3 => ?_) (by omega)
 unfold Lx.readV
 rw [if_neg (by omega), if_neg (of_decide_eq_false h2), if_neg (fun h => h (of_decide_eq_true h3)), if_neg (by omega)]
 rfl
theorem xshown3_is (w : World) (M : Int) (hV : Vars M w) : Calls Tryz.prog 8 #[] w fun e w' => e = .returned (.bool true) /\ Below w.heap.size w w' := by
 have rd : ∀ (p : Int) (hp : p ∈ [(2 : Int), 3, 7]) (t : ByteArray) (r : Vl × Int) (h : Lx.readV p t = r) (w : World) (hV : Vars M w), Calls Tryz.prog 9 #[.int .i64 p, .string t] w fun e w' => e = .returned (tuV r) /\ Below w.heap.size w w' := fun p hp t r h w hV => by rw [<- h]; exact xread3_is p hp t w M hV
 refine tree_rv (env := []) run_shown9 ⟨⟨rfl, fk, fun _ L w hV => rd 3 (by decide) sA _ read_A w hV⟩, ⟨rfl, fk, fun _ L w hV => rd 3 (by decide) _ _ read_dot w hV⟩, ⟨rfl, fk, fun _ L w hV => rd 7 (by decide) _ _ read_B w hV⟩,
  ⟨rfl, fk, fun _ L w hV => ?_⟩, ⟨rfl, fk, fun _ L w hV => ?_⟩, ⟨rfl, fk, fun _ L w hV => rd 2 (by decide) _ _ read_C w hV⟩,
  ⟨rfl, fk, fun _ L w hV => ?_⟩, ⟨rfl, fk, fun _ L w hV => ?_⟩, trivial⟩ rfl trivial rfl rfl rfl hV
 ·have h := xtextf_is vB (small_sz vB) (str (Lx.hexT (bts vB.t))) (fun w M _ => xtext5_is vB.t (by decide) false false ⟨#[]⟩ 0 Mo.nil nilL w) (by decide) w M hV
  rw [ok_B] at h
  exact h
 ·have h := xlength_is vB (small_sz vB) (by decide) (by decide) w M hV
  rw [ok_B] at h
  exact h
 ·have h := xcheck_is vA (small_sz vA) nilL 0 nilL_slice false w M (listOk_no (by decide)) hV
  rw [ok_A] at h
  exact h
 ·have h := xcheck_is Lx.zero (small_sz Lx.zero) nilL 0 nilL_slice false w M (listOk_no (by decide)) hV
  rw [ok_Z] at h
  exact h
end Go.Proofs.YthoojcdjjecogaaGreatDoor
