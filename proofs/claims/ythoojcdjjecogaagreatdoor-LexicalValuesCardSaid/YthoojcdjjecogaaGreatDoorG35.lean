/-
  Part 35 of the proof: what functions return, and plain facts (Xrck Xread Xpair Xlaws Xback Xptx Xrtx Xlen Xel Xopen). Conditions: each theorem names its own.
-/
import Derived.Test.YthoojcdjjecogaaGreatDoorG34
import Derived.Test.YthoojcdjjecogaaGreatDoorG11
import Derived.Test.YthoojcdjjecogaaGreatDoorG28
import Derived.Lib.Join
import Derived.ChangeSlices
set_option maxRecDepth 1000000
set_option maxHeartbeats 16000000
namespace Go.Proofs.YthoojcdjjecogaaGreatDoor
open Go Go.RowKit Go.Ex

def rcL (b : Nat) : List (X × Bool) := [(.lt (.int 0) (.slen (b + 17)), false)]
def rcK (b : Nat) (k : Int) : List (X × Bool) := (if k = 1 \/ k = 5 then [] else bcT b) ++ (if k = 2 then [] else bcB b) ++ (if k = 3 then [] else bcD b) ++ (if k = 4 then [] else bcM b) ++ (if k = 6 then [] else rcL b)
theorem rcK_at {E : Nat -> Value} {b n : Nat} {l : Value} (hl : SliceN l n) (hE : E (b + 17) = l) (k : Int) : chB E (rcK b k) = chB E (bcK b k) := by
 have e : chB E (rcL b) = chB E (bcL b) := by
  have hs : X.evI E (.slen (b + 17)) = (n : Int) := slen_ok hl hE
  simp only [chB, rcL, bcL, List.all_cons, List.all_nil, X.evB]
  rw [hs]
  show (decide ((0 : Int) < (n : Int)) == false && true) = (decide ((n : Int) = 0) == true && true)
  by_cases h : n = 0
  ·subst h; rfl
  ·rw [decide_eq_true (show (0 : Int) < (n : Int) by omega), decide_eq_false (show ¬(n : Int) = 0 by omega)]; rfl
 unfold rcK bcK
 rw [chB_append, chB_append _ _ (if k = 6 then [] else bcL b)]
 congr 1
 split
 ·rfl
 ·exact e
def z0 : Tree := .leaf (it 0)
def z2 : Tree := .leaf (it 2)
def rcC : List CallX := [⟨26, [xs 2], [], .tup [.junk 0, xi 19, xi 20]⟩, ⟨39, [deV 4], [], xi 21⟩, ⟨40, [moV 7], [], xi 22⟩]
theorem run_rck : ∀ k ∈ [(2 : Int), 5], chk (runTr Tryz.prog nG (fun _ => none) gd moT rcC 100 18 [vaK k 1 (.atom 18)] h0) (chT (rcK 1 k) z0 z2) [(.isSl 18, true)] = true := by decide +kernel
theorem run_rck1 : chk (runTr Tryz.prog nG (fun _ => none) gd moT rcC 100 18 [vaK 1 1 (.atom 18)] h0) (.node (.eq (.at 20) (.int 0)) (chT (rcK 1 1) z0 z2) z2) [(.isSl 18, true)] = true := by decide +kernel
theorem run_rck3 : chk (runTr Tryz.prog nG (fun _ => none) gd moT rcC 100 18 [vaK 3 1 (.atom 18)] h0) (.node (.eq (.at 21) (.int 0)) (chT (rcK 1 3) z0 z2) z2) [(.isSl 18, true)] = true := by decide +kernel
theorem run_rck4 : chk (runTr Tryz.prog nG (fun _ => none) gd moT rcC 100 18 [vaK 4 1 (.atom 18)] h0) (.node (.eq (.at 22) (.int 0)) (chT (rcK 1 4) z0 z2) z2) [(.isSl 18, true)] = true := by decide +kernel
theorem run_rck0 : chk (runTr Tryz.prog nG (fun _ => none) gd moT rcC 100 18 [vaV 1 (.atom 18)] h0) z2 noKi = true := by decide +kernel
def rckE (v : Vl) (l : Value) : List Value := vE v l ++ [.int .i64 (decP v.t), .int .i64 (decI v.t), .int .i64 (ckI v.n v.s v.S), .int .i64 (bif Mo.okB v.m then 0 else 2)]
theorem xrck_is (v : Vl) (hv : v.Sz) (l : Value) (n : Nat) (hl : SliceN l n) (lc : Bool) (h6 : v.k ≠ 6) (w : World) (M : Int) (hV : Vars M w) : Calls Tryz.prog 18 #[v.val l] w fun e w' => e = .returned (.int .i64 (bif Lx.okV v n lc then 0 else 2)) /\ Below w.heap.size w w' := by
 obtain ⟨E, hE⟩ : ∃ E, envE (.int .i64 M :: rckE v l) = E := ⟨_, rfl⟩
 have hone : (rckE v l).all Value.oneCell' = true := vE_one v l n hl _ rfl
 have hat : ∀ i, i < 18 -> E (1 + i) = (vE v l).getD i (.bool false) := hE ▸ vE_at v l M _
 have h18 : E 18 = l := by rw [<- hE]; rfl
 have hs : X.evB E (.isSl 18) = true := isSl_ok hl h18
 have b1 := rcK_at (E := E) (b := 1) hl h18
 have hAll : AllX Tryz.prog (envE (.int .i64 M :: rckE v l)) (Vars M) rcC := ⟨rdec_ok [] (fun _ => by have := hv.t; omega) rfl rfl rfl,
  ⟨rfl, fk, fun _ L w _ => rcheck_r v.n v.s v.S hv.s _ rfl w⟩,
  ⟨rfl, fk, fun _ L w hV => rcheckm_is v.m hv.m w M hV⟩, trivial⟩
 have bar : ∀ k, (v.k = k \/ (k = 0 /\ v.k ≠ 1 /\ v.k ≠ 2 /\ v.k ≠ 3 /\ v.k ≠ 4 /\ v.k ≠ 5 /\ v.k ≠ 6)) -> ((chT (rcK 1 k) z0 z2).at E).den L0 E = .int .i64 (bif barV v n then 0 else 2) := fun k hk => by
  rw [chT_at, b1, bcK_at v l n hl E 1 hat k hk]
  unfold barV
  cases (Lx.bareB v && (decide (v.k = 6) || decide (n = 0))) <;> rfl
 have fin : ∀ o : Bool, Lx.kindB v n lc = o -> Lx.okV v n lc = (o && barV v n) := fun o ho => by unfold Lx.okV; rw [ho]; rfl
 have d20 : X.evB E (.eq (.at 20) (.int 0)) = decide (decI v.t = 0) := by rw [<- hE]; rfl
 have d21 : X.evB E (.eq (.at 21) (.int 0)) = decide (ckI v.n v.s v.S = 0) := by rw [<- hE]; rfl
 have d22 : X.evB E (.eq (.at 22) (.int 0)) = decide ((bif Mo.okB v.m then (0 : Int) else 2) = 0) := by rw [<- hE]; rfl
 have nd : ∀ (c : X) (t : Tree) (o : Bool), X.evB E c = o -> ((Tree.node c t z2).at E).den L0 E = bif o then (t.at E).den L0 E else .int .i64 2 := fun c t o ho => by
  show (bif X.evB E c then t.at E else z2.at E).den L0 E = _
  rw [ho]; cases o <;> rfl
 have two : ∀ o b : Bool, (bif o then Value.int .i64 (bif b then 0 else 2) else .int .i64 2) = .int .i64 (bif o && b then 0 else 2) := fun o b => by cases o <;> cases b <;> rfl
 by_cases h1 : v.k = 1
 ·have hv' : ((Tree.node (.eq (.at 20) (.int 0)) (chT (rcK 1 1) z0 z2) z2).at E).den L0 E = .int .i64 (bif Lx.okV v n lc then 0 else 2) := by
   rw [nd _ _ _ d20, bar 1 (.inl h1), two, decI_zero, fin (decide (wrongI v.t = -1)) (by unfold Lx.kindB; rw [if_pos h1])]
  rw [<- hE] at hv' hs
  exact tree_rv run_rck1 hAll hone ⟨hs, trivial⟩ rfl (by rw [<- h1]; rfl) hv' hV
 by_cases h2 : v.k = 2 \/ v.k = 5
 ·have hv' : ((chT (rcK 1 v.k) z0 z2).at E).den L0 E = .int .i64 (bif Lx.okV v n lc then 0 else 2) := by
   rw [bar v.k (.inl rfl), fin true (by unfold Lx.kindB; rw [if_neg h1, if_pos h2]), Bool.true_and]
  rw [<- hE] at hv' hs
  exact tree_rv (run_rck v.k (by rcases h2 with h | h <;> rw [h] <;> decide)) hAll hone ⟨hs, trivial⟩ rfl rfl hv' hV
 by_cases h3 : v.k = 3
 ·have hv' : ((Tree.node (.eq (.at 21) (.int 0)) (chT (rcK 1 3) z0 z2) z2).at E).den L0 E = .int .i64 (bif Lx.okV v n lc then 0 else 2) := by
   rw [nd _ _ _ d21, bar 3 (.inl h3), two, fin (decide (ckI v.n v.s v.S = 0)) (by unfold Lx.kindB; rw [if_neg h1, if_neg h2, if_pos h3]; unfold ckI; cases okB v.n v.s v.S <;> rfl)]
  rw [<- hE] at hv' hs
  exact tree_rv run_rck3 hAll hone ⟨hs, trivial⟩ rfl (by rw [<- h3]; rfl) hv' hV
 by_cases h4 : v.k = 4
 ·have hv' : ((Tree.node (.eq (.at 22) (.int 0)) (chT (rcK 1 4) z0 z2) z2).at E).den L0 E = .int .i64 (bif Lx.okV v n lc then 0 else 2) := by
   rw [nd _ _ _ d22, bar 4 (.inl h4), two, fin (decide ((bif Mo.okB v.m then (0 : Int) else 2) = 0)) (by unfold Lx.kindB; rw [if_neg h1, if_neg h2, if_neg h3, if_pos h4]; cases Mo.okB v.m <;> rfl)]
  rw [<- hE] at hv' hs
  exact tree_rv run_rck4 hAll hone ⟨hs, trivial⟩ rfl (by rw [<- h4]; rfl) hv' hV
 ·have hv' : (z2.at E).den L0 E = .int .i64 (bif Lx.okV v n lc then 0 else 2) := by
   rw [fin false (by unfold Lx.kindB; rw [if_neg h1, if_neg h2, if_neg h3, if_neg h4, if_neg h6])]
   rfl
  rw [<- hE] at hv' hs
  exact tree_rv run_rck0 hAll hone ⟨decide_eq_false h1, decide_eq_false (fun h => h2 (.inr h)), decide_eq_false (fun h => h2 (.inl h)), decide_eq_false h3, decide_eq_false h4, decide_eq_false h6, hs, trivial⟩ rfl rfl hv' hV

def tenL : X × Bool := (.lt (.int 300) (.len (.at 2)), false)
def rdX (f : Nat) (a : V) (k : Int) : CallX := ⟨f, [a, xs 5], [(.eq (.at 1) (.int k), true), tenL], .tup [vaV 6 .nils, xi 23]⟩
def rdC : List CallX := [⟨24, [xs 2], [tenL], .tup [.junk 0, xi 3, xi 4]⟩, ⟨25, [xs 2, it 2], [(.eq (.at 4) (.int 0), true), tenL], .tup [xs 5, it 0]⟩,
 rdX 228 (.agg []) 2, rdX 229 (.agg []) 3, rdX 254 (.agg []) 7, rdX 238 (.agg [it 1]) 4, rdX 238 (.agg [it 2]) 5, rdX 238 (.agg [it 3]) 6]
def rdL (y : Tree) : Tree := .node (.lt (.int 300) (.len (.at 2))) (tZ (it 3)) (.node (.eq (.at 4) (.int 0)) y (tZ (it 6)))
def rdY : Tree := .leaf (.tup [vaV 6 .nils, xi 23])
def rdP : Tree := .leaf (.tup [vl (it 1) (xs 2) (.bool false) (.bool false) (.str []) (it 0) mo0 .nils, it 0])
def rdT : Tree := .node (.eq (.at 1) (.int 1)) (rdL rdP) (.node (.eq (.at 1) (.int 2)) (rdL rdY) (.node (.eq (.at 1) (.int 3)) (rdL rdY) (.node (.eq (.at 1) (.int 4)) (rdL rdY) (.node (.eq (.at 1) (.int 5)) (rdL rdY) (.node (.eq (.at 1) (.int 6)) (rdL rdY) (.node (.eq (.at 1) (.int 7)) (rdL rdY) (tZ (it 2))))))))
theorem run_read : chk (runTr Tryz.prog nG (fun _ => none) gd moT rdC 100 9 [xi 1, xs 2] h0) rdT [] = true := by decide +kernel
def sqS (t : ByteArray) : ByteArray := str (sqTwo (bts t))
theorem sqS_size (t : ByteArray) : (sqS t).size <= t.size := by unfold sqS; rw [str_size]; exact sqTwo_length t
def rdE (p : Int) (t : ByteArray) : List Value := [.int .i64 p, .string t, .int .i64 (decP t), .int .i64 (decI t), .string (sqS t)] ++ (Lx.readS p (sqS t)).1.list ++ [.int .i64 (Lx.readS p (sqS t)).2]
theorem rd_le {E : Nat -> Value} {t : ByteArray} (hE : E 2 = .string t) (h : X.evB E tenL.1 = tenL.2) : t.size <= 300 := by
 have h2 : decide ((300 : Int) < ((X.evS E (.at 2)).size : Int)) = false := h
 simp only [X.evS, hE] at h2
 have := of_decide_eq_false h2
 omega
theorem rdC_ok (p : Int) (t : ByteArray) (M : Int) : AllX Tryz.prog (envE (.int .i64 M :: rdE p t)) (Vars M) rdC := by
 have hE : envE (.int .i64 M :: rdE p t) 2 = .string t := rfl
 have one : ∀ (f : Nat) (a : V) (av : Value) (k : Int) (hf : ∃ fn, Tryz.prog.funcs[f]? = some fn /\ (fn.name == "runtime.NumGoroutine") = false /\ fn.body.isNone = false) (ha : ∀ L, a.den L (envE (.int .i64 M :: rdE p t)) = av),
   (∀ w, p = k -> t.size <= 300 -> Vars M w -> Calls Tryz.prog f #[av, .string (sqS t)] w fun e w' => e = .returned (tuV (Lx.readS p (sqS t))) /\ Below w.heap.size w w') -> CallX.Ok Tryz.prog (envE (.int .i64 M :: rdE p t)) (Vars M) (rdX f a k) := fun f a av k hf ha h => by
  refine ⟨rfl, hf, fun hp L w hV => ?_⟩
  have e1 : V.dens L (envE (.int .i64 M :: rdE p t)) [a, xs 5] = [av, .string (sqS t)] := by simp only [V.dens, ha]; rfl
  show Calls _ _ (V.dens L (envE (.int .i64 M :: rdE p t)) [a, xs 5]).toArray w fun q w' => q = .returned (tuV (Lx.readS p (sqS t))) /\ Below w.heap.size w w'
  rw [e1]
  exact h w (of_decide_eq_true (show decide (p = k) = true from hp.1)) (rd_le hE hp.2.1) hV
 refine ⟨pdec_ok _ (fun hp => by have := rd_le hE hp.1; omega) rfl rfl rfl, ⟨rfl, fk, fun hp L w hV => ?_⟩,
  one _ _ (.agg #[]) 2 fk (fun _ => rfl) fun w hk _ _ => ?_,
  one _ _ (.agg #[]) 3 fk (fun _ => rfl) fun w hk ht hV => ?_,
  one _ _ (.agg #[]) 7 fk (fun _ => rfl) fun w hk ht hV => ?_,
  one _ _ (.agg #[.int .i64 1]) 4 fk (fun _ => rfl) fun w hk ht hV => ?_,
  one _ _ (.agg #[.int .i64 2]) 5 fk (fun _ => rfl) fun w hk ht hV => ?_,
  one _ _ (.agg #[.int .i64 3]) 6 fk (fun _ => rfl) fun w hk ht hV => ?_, trivial⟩
 ·have h0 : decide (decI t = 0) = true := hp.1
  rw [decI_zero] at h0
  have ht := rd_le hE hp.2.1
  exact f22_2 t (by omega) w hV.rng M (by obtain ⟨lo, hi, h1, _⟩ := hV.row0; simp [World.cell?, h1]) (of_decide_eq_true h0)
 ·subst hk; exact xtruth_is (sqS t) w
 ·subst hk; have := sqS_size t; exact xnum_is (sqS t) (by omega) w M hV
 ·subst hk; have := sqS_size t; exact xhexr_is (sqS t) (by omega) w
 ·subst hk; have := sqS_size t; exact xinstant_is 1 (sqS t) (by omega) w M hV
 ·subst hk; have := sqS_size t; exact xinstant_is 2 (sqS t) (by omega) w M hV
 ·subst hk; have := sqS_size t; exact xinstant_is 3 (sqS t) (by omega) w M hV
theorem rdL_at (y : Tree) (p : Int) (t : ByteArray) (M : Int) (h : decide (300 < t.size) = false -> decide (wrongI t = -1) = true -> (y.at (envE (.int .i64 M :: rdE p t))).den L0 (envE (.int .i64 M :: rdE p t)) = tuV (Lx.readV p t)) (h1 : ¬(p < 1 \/ 7 < p)) :
  ((rdL y).at (envE (.int .i64 M :: rdE p t))).den L0 (envE (.int .i64 M :: rdE p t)) = tuV (Lx.readV p t) := by
 have e : (rdL y).at (envE (.int .i64 M :: rdE p t)) = bif decide ((300 : Int) < (t.size : Int)) then (tZ (it 3)).at (envE (.int .i64 M :: rdE p t)) else bif decide (decI t = 0) then y.at (envE (.int .i64 M :: rdE p t)) else (tZ (it 6)).at (envE (.int .i64 M :: rdE p t)) := rfl
 rw [e, decI_zero]
 by_cases h2 : 300 < t.size
 ·rw [decide_eq_true (by omega), cond_true, tZ_den (it 3) 3 _ rfl]; unfold Lx.readV; rw [if_neg h1, if_pos h2]
 ·rw [decide_eq_false (by omega), cond_false]
  by_cases h3 : wrongI t = -1
  ·rw [decide_eq_true h3, cond_true]; exact h (decide_eq_false h2) (decide_eq_true h3)
  ·rw [decide_eq_false h3, cond_false, tZ_den (it 6) 6 _ rfl]; unfold Lx.readV; rw [if_neg h1, if_neg h2, if_pos h3]
theorem xread_is (p : Int) (t : ByteArray) (w : World) (M : Int) (hV : Vars M w) : Calls Tryz.prog 9 #[.int .i64 p, .string t] w fun e w' => e = .returned (tuV (Lx.readV p t)) /\ Below w.heap.size w w' := by
 refine tree_rv (env := rdE p t) run_read (rdC_ok p t M) (by unfold rdE; rw [List.all_append, List.all_append]; rfl) trivial rfl rfl ?_ hV
 have e : rdT.at (envE (.int .i64 M :: rdE p t)) = bif decide (p = 1) then (rdL rdP).at (envE (.int .i64 M :: rdE p t)) else bif decide (p = 2) then (rdL rdY).at (envE (.int .i64 M :: rdE p t)) else bif decide (p = 3) then (rdL rdY).at (envE (.int .i64 M :: rdE p t)) else bif decide (p = 4) then (rdL rdY).at (envE (.int .i64 M :: rdE p t)) else
  bif decide (p = 5) then (rdL rdY).at (envE (.int .i64 M :: rdE p t)) else bif decide (p = 6) then (rdL rdY).at (envE (.int .i64 M :: rdE p t)) else bif decide (p = 7) then (rdL rdY).at (envE (.int .i64 M :: rdE p t)) else (tZ (it 2)).at (envE (.int .i64 M :: rdE p t)) := rfl
 rw [e]
 have yes : ∀ k, p = k -> k ≠ 1 -> 1 <= k -> k <= 7 -> ((rdL rdY).at (envE (.int .i64 M :: rdE p t))).den L0 (envE (.int .i64 M :: rdE p t)) = tuV (Lx.readV p t) := fun k hk k1 k2 k3 => by
  refine rdL_at rdY p t M (fun h2 h3 => ?_) (by omega)
  unfold Lx.readV
  rw [if_neg (by omega), if_neg (of_decide_eq_false h2), if_neg (fun h => h (of_decide_eq_true h3)), if_neg (by omega)]
  rfl
 by_cases h1 : p = 1
 ·rw [decide_eq_true h1, cond_true]
  refine rdL_at rdP p t M (fun h2 h3 => ?_) (by omega)
  unfold Lx.readV
  rw [if_neg (by omega), if_neg (of_decide_eq_false h2), if_neg (fun h => h (of_decide_eq_true h3)), if_pos h1]
  rfl
 rw [decide_eq_false h1, cond_false]
 by_cases h2 : p = 2
 ·rw [decide_eq_true h2]; exact yes 2 h2 (by decide) (by decide) (by decide)
 rw [decide_eq_false h2, cond_false]
 by_cases h3 : p = 3
 ·rw [decide_eq_true h3]; exact yes 3 h3 (by decide) (by decide) (by decide)
 rw [decide_eq_false h3, cond_false]
 by_cases h4 : p = 4
 ·rw [decide_eq_true h4]; exact yes 4 h4 (by decide) (by decide) (by decide)
 rw [decide_eq_false h4, cond_false]
 by_cases h5 : p = 5
 ·rw [decide_eq_true h5]; exact yes 5 h5 (by decide) (by decide) (by decide)
 rw [decide_eq_false h5, cond_false]
 by_cases h6 : p = 6
 ·rw [decide_eq_true h6]; exact yes 6 h6 (by decide) (by decide) (by decide)
 rw [decide_eq_false h6, cond_false]
 by_cases h7 : p = 7
 ·rw [decide_eq_true h7]; exact yes 7 h7 (by decide) (by decide) (by decide)
 rw [decide_eq_false h7, cond_false, tZ_den (it 2) 2 _ rfl]
 unfold Lx.readV
 rw [if_pos (by omega)]
end Go.Proofs.YthoojcdjjecogaaGreatDoor
namespace Go.Proofs.YthoojcdjjecogaaGreatDoor
open Go Go.RowKit Go.Ex
namespace Lx
end Lx
def ListEq (w0 : World) (M : Int) (v u : Vl) (l k : Value) (q : Bool) : Prop := v.k = 6 -> u.k = 6 -> ∀ w, VK M w0 w -> Calls Tryz.prog 80 #[l, k, .func (.func 41) #[] #[]] w fun e w' => e = .returned (.bool q) /\ Below w.heap.size w w'
theorem ListEq.next {w0 w : World} {M : Int} {v u : Vl} {l k : Value} {q : Bool} (h : ListEq w0 M v u l k q) (hk : VK M w0 w) : ListEq w M v u l k q := fun h6 hn w' hw => h h6 hn w' ⟨hw.1, hk.2.trans hw.2⟩
def chI (b : Bool) : Int := bif b then 0 else 2
theorem chI_zero (b : Bool) : decide (chI b = 0) = b := by cases b <;> rfl
end Go.Proofs.YthoojcdjjecogaaGreatDoor
namespace Go.Proofs.YthoojcdjjecogaaGreatDoor
open Go Go.RowKit Go.Ex
theorem run_text9 : chk (runTr Tryz.prog nG (fun _ => none) gd moT [⟨17, [vaV 1 .nils], [], xi 18⟩, ⟨31, [vaV 1 .nils], [], xs 19⟩] 100 13 [vaV 1 .nils] h0) (.node (.eq (.at 18) (.int 0)) (.leaf (.tup [xs 19, it 0])) (.leaf (.tup [.str [], it 2]))) [] = true := by decide +kernel
theorem xck_of (v : Vl) (hv : v.Sz) (h6 : v.k ≠ 6) (M : Int) {o : Bool} (ho : Lx.okV v 0 false = o) (w : World) (hV : Vars M w) : Calls Tryz.prog 17 #[v.val nilL] w fun e w' => e = .returned (.int .i64 (chI o)) /\ Below w.heap.size w w' := by
 rw [<- ho]; exact xcheck_is v hv nilL 0 nilL_slice false w M (listOk_no h6) hV
theorem xtextf_is (v : Vl) (hv : v.Sz) (t : ByteArray) (ht : ∀ w M, Vars M w -> Calls Tryz.prog 31 #[v.val nilL] w fun e w' => e = .returned (.string t) /\ Below w.heap.size w w') (hk : v.k ≠ 6) (w : World) (M : Int) (hV : Vars M w) :
  Calls Tryz.prog 13 #[v.val nilL] w fun e w' => e = .returned (bif Lx.okV v 0 false then .tuple #[.string t, .int .i64 0] else .tuple #[.string ⟨#[]⟩, .int .i64 2]) /\ Below w.heap.size w w' := by
 obtain ⟨o, ho⟩ : ∃ o, Lx.okV v 0 false = o := ⟨_, rfl⟩
 have hck := xck_of v hv hk M ho
 rw [ho]
 clear ho
 have h1 : (v.list ++ [Value.int .i64 (chI o), Value.string t]).all Value.oneCell' = true := rfl
 have h2 : (V.dens L0 (envE (.int .i64 M :: (v.list ++ [.int .i64 (chI o), .string t]))) [vaV 1 .nils]).toArray = #[v.val nilL] := rfl
 have h3 : (Tree.at (envE (.int .i64 M :: (v.list ++ [.int .i64 (chI o), .string t]))) (.node (.eq (.at 18) (.int 0)) (.leaf (.tup [xs 19, it 0])) (.leaf (.tup [.str [], it 2])))).den L0 (envE (.int .i64 M :: (v.list ++ [.int .i64 (chI o), .string t]))) = bif o then Value.tuple #[.string t, .int .i64 0] else .tuple #[.string ⟨#[]⟩, .int .i64 2] := by
  show (bif decide (chI o = 0) then V.tup [xs 19, it 0] else V.tup [.str [], it 2]).den L0 _ = _
  rw [chI_zero]
  cases o <;> rfl
 have h4 : AllX Tryz.prog (envE (.int .i64 M :: (v.list ++ [.int .i64 (chI o), .string t]))) (Vars M) [⟨17, [vaV 1 .nils], [], xi 18⟩, ⟨31, [vaV 1 .nils], [], xs 19⟩] := ⟨⟨rfl, fk, fun _ L w hV => hck w hV⟩, ⟨rfl, fk, fun _ L w hV => ht w M hV⟩, trivial⟩
 exact tree_rv run_text9 h4 h1 trivial rfl h2 h3 hV
def leT : Tree := .node (.eq (.at 18) (.int 0)) (.node (.eq (.at 1) (.int 5)) (.leaf (.tup [.xi .i64 (.len (.at 2)), it 0])) (.leaf (.tup [it 0, it 2]))) (.leaf (.tup [it 0, it 2]))
theorem run_len9 : chk (runTr Tryz.prog nG (fun _ => none) gd moT [⟨17, [vaV 1 .nils], [], xi 18⟩] 100 15 [vaV 1 .nils] h0) leT [(.eq (.at 1) (.int 1), false), (.eq (.at 1) (.int 6), false)] = true := by decide +kernel
theorem xlength_is (v : Vl) (hv : v.Sz) (h1 : v.k ≠ 1) (h6 : v.k ≠ 6) (w : World) (M : Int) (hV : Vars M w) : Calls Tryz.prog 15 #[v.val nilL] w fun e w' => e = .returned (bif Lx.okV v 0 false && decide (v.k = 5) then .tuple #[.int .i64 v.t.size, .int .i64 0] else .tuple #[.int .i64 0, .int .i64 2]) /\ Below w.heap.size w w' := by
 obtain ⟨o, ho⟩ : ∃ o, Lx.okV v 0 false = o := ⟨_, rfl⟩
 have hck := xck_of v hv h6 M ho
 rw [ho]
 clear ho
 have a1 : (v.list ++ [Value.int .i64 (chI o)]).all Value.oneCell' = true := rfl
 have a2 : (V.dens L0 (envE (.int .i64 M :: (v.list ++ [.int .i64 (chI o)]))) [vaV 1 .nils]).toArray = #[v.val nilL] := rfl
 have a3 : (leT.at (envE (.int .i64 M :: (v.list ++ [.int .i64 (chI o)])))).den L0 (envE (.int .i64 M :: (v.list ++ [.int .i64 (chI o)]))) = bif o && decide (v.k = 5) then Value.tuple #[.int .i64 v.t.size, .int .i64 0] else .tuple #[.int .i64 0, .int .i64 2] := by
  show (bif decide (chI o = 0) then bif decide (v.k = 5) then V.tup [.xi .i64 (.len (.at 2)), it 0] else V.tup [it 0, it 2] else V.tup [it 0, it 2]).den L0 _ = _
  rw [chI_zero]
  cases o <;> cases decide (v.k = 5) <;> rfl
 have a4 : AllX Tryz.prog (envE (.int .i64 M :: (v.list ++ [.int .i64 (chI o)]))) (Vars M) [⟨17, [vaV 1 .nils], [], xi 18⟩] := ⟨⟨rfl, fk, fun _ L w hV => hck w hV⟩, trivial⟩
 have a5 : Fx.Ok (envE (.int .i64 M :: (v.list ++ [.int .i64 (chI o)]))) [(.eq (.at 1) (.int 1), false), (.eq (.at 1) (.int 6), false)] := ⟨decide_eq_false h1, decide_eq_false h6, trivial⟩
 exact tree_rv run_len9 a4 a1 a5 rfl a2 a3 hV
def sA : ByteArray := ⟨#[32, 43, 48, 48, 55, 46, 53, 48, 32]⟩
def vA : Vl := ⟨3, ⟨#[]⟩, false, false, ⟨#[55, 53]⟩, 1, Mo.nil⟩
def vB : Vl := ⟨5, ⟨#[10, 255]⟩, false, false, ⟨#[]⟩, 0, Mo.nil⟩
def vC : Vl := ⟨2, ⟨#[]⟩, true, false, ⟨#[]⟩, 0, Mo.nil⟩
theorem read_A : Lx.readV 3 sA = (vA, 0) := by kernel_rfl
theorem read_dot : Lx.readV 3 ⟨#[46]⟩ = (Lx.zero, 6) := by kernel_rfl
theorem read_B : Lx.readV 7 ⟨#[48, 97, 102, 102]⟩ = (vB, 0) := by kernel_rfl
theorem read_C : Lx.readV 2 ⟨#[49]⟩ = (vC, 0) := by kernel_rfl
theorem ok_A : Lx.okV vA 0 false = true := by kernel_rfl
theorem ok_B : Lx.okV vB 0 false = true := by kernel_rfl
theorem ok_Z : Lx.okV Lx.zero 0 false = false := by kernel_rfl
def zv : V := vl (it 0) (.str []) (.bool false) (.bool false) (.str []) (it 0) mo0 .nils
def shA : V := vl (it 3) (.str []) (.bool false) (.bool false) (.str [55, 53]) (it 1) mo0 .nils
def shB : V := vl (it 5) (.str [10, 255]) (.bool false) (.bool false) (.str []) (it 0) mo0 .nils
def shC : V := vl (it 2) (.str []) (.bool true) (.bool false) (.str []) (it 0) mo0 .nils
def shX : List CallX := [⟨9, [it 3, .str [32, 43, 48, 48, 55, 46, 53, 48, 32]], [], .tup [shA, it 0]⟩, ⟨9, [it 3, .str [46]], [], .tup [zv, it 6]⟩, ⟨9, [it 7, .str [48, 97, 102, 102]], [], .tup [shB, it 0]⟩, ⟨13, [shB], [], .tup [.str [48, 65, 70, 70], it 0]⟩, ⟨15, [shB], [], .tup [it 2, it 0]⟩, ⟨9, [it 2, .str [49]], [], .tup [shC, it 0]⟩, ⟨17, [shA], [], it 0⟩, ⟨17, [zv], [], it 2⟩]
theorem run_shown9 : chk (runTr Tryz.prog nG (fun _ => none) gd moT shX 100 8 [] h0) yesT [] = true := by decide +kernel
theorem small_sz (v : Vl) (h1 : v.t.size <= 100000 := by decide) (h2 : v.s.size <= 1000000 := by decide) (h3 : v.m.s.size <= 1000000 := by decide) : v.Sz := ⟨h1, h2, h3⟩
theorem xshown_is (w : World) (M : Int) (hV : Vars M w) : Calls Tryz.prog 8 #[] w fun e w' => e = .returned (.bool true) /\ Below w.heap.size w w' := by
 have rd : ∀ (p : Int) (t : ByteArray) (r : Vl × Int) (h : Lx.readV p t = r) (w : World) (hV : Vars M w), Calls Tryz.prog 9 #[.int .i64 p, .string t] w fun e w' => e = .returned (tuV r) /\ Below w.heap.size w w' := fun p t r h w hV => by rw [<- h]; exact xread_is p t w M hV
 refine tree_rv (env := []) run_shown9 ⟨⟨rfl, fk, fun _ L w hV => rd 3 sA _ read_A w hV⟩, ⟨rfl, fk, fun _ L w hV => rd 3 _ _ read_dot w hV⟩, ⟨rfl, fk, fun _ L w hV => rd 7 _ _ read_B w hV⟩,
  ⟨rfl, fk, fun _ L w hV => ?_⟩, ⟨rfl, fk, fun _ L w hV => ?_⟩, ⟨rfl, fk, fun _ L w hV => rd 2 _ _ read_C w hV⟩,
  ⟨rfl, fk, fun _ L w hV => ?_⟩, ⟨rfl, fk, fun _ L w hV => ?_⟩, trivial⟩ rfl trivial rfl rfl rfl hV
 ·have h := xtextf_is vB (small_sz vB) (str (Lx.hexT (bts vB.t))) (fun w M _ => xtext5_is vB.t (by decide) false false ⟨#[]⟩ 0 Mo.nil nilL w) (by decide) w M hV
  rw [ok_B] at h
  exact h
 ·have h := xlength_is vB (small_sz vB) (by decide) (by decide) w M hV
  rw [ok_B] at h
  exact h
 ·have h := xcheck_is vA (small_sz vA) nilL 0 nilL_slice false w M (listOk_no (by decide)) hV
  rw [ok_A] at h
  exact h
 ·have h := xcheck_is Lx.zero (small_sz Lx.zero) nilL 0 nilL_slice false w M (listOk_no (by decide)) hV
  rw [ok_Z] at h
  exact h
theorem k3 {k : Int} (h : (3 : Int) ≠ k := by decide) : ¬(3 : Int) = k := h
end Go.Proofs.YthoojcdjjecogaaGreatDoor
namespace Go.Proofs.YthoojcdjjecogaaGreatDoor
open Go Go.RowKit

def Lx.textS (v : Vl) : ByteArray := if v.k = 1 then v.t else if v.k = 2 then (if v.b = true then Lx.strT else Lx.strF) else if v.k = 3 then (textR v.n v.s v.S).1 else if v.k = 4 then (Mo.textM v.m).1 else str (Lx.hexT (bts v.t))
namespace Lx
end Lx
end Go.Proofs.YthoojcdjjecogaaGreatDoor
namespace Go.Proofs.YthoojcdjjecogaaGreatDoor
open Go Go.RowKit Go.Ex

theorem run_tx1 : chk (runTr Tryz.prog nG (fun _ => none) gd moT [] 100 31 [vaK 1 1 (.atom 18)] h0) (.leaf (xs 2)) [(.isSl 18, true)] = true := by decide +kernel
theorem run_tx2 : chk (runTr Tryz.prog nG (fun _ => none) gd moT [] 100 31 [vaK 2 1 (.atom 18)] h0) (.node (.at 3) (.leaf (.str [116, 114, 117, 101])) (.leaf (.str [102, 97, 108, 115, 101]))) [(.isSl 18, true)] = true := by decide +kernel
theorem run_tx3 : chk (runTr Tryz.prog nG (fun _ => none) gd moT [⟨65, [deV 4], [], .tup [xs 19, xi 20]⟩] 100 31 [vaK 3 1 (.atom 18)] h0) (.leaf (xs 19)) [(.isSl 18, true)] = true := by decide +kernel
theorem run_tx4 : chk (runTr Tryz.prog nG (fun _ => none) gd moT [⟨66, [moV 7], [], .tup [xs 19, xi 20]⟩] 100 31 [vaK 4 1 (.atom 18)] h0) (.leaf (xs 19)) [(.isSl 18, true)] = true := by decide +kernel
theorem textS_1 {v : Vl} (h : v.k = 1) : Lx.textS v = v.t := if_pos h
theorem textS_2 {v : Vl} (h : v.k = 2) : Lx.textS v = if v.b = true then Lx.strT else Lx.strF := by
 unfold Lx.textS; rw [if_neg (by omega), if_pos h]
theorem textS_3 {v : Vl} (h : v.k = 3) : Lx.textS v = (textR v.n v.s v.S).1 := by
 unfold Lx.textS; rw [if_neg (by omega), if_neg (by omega), if_pos h]
theorem textS_4 {v : Vl} (h : v.k = 4) : Lx.textS v = (Mo.textM v.m).1 := by
 unfold Lx.textS; rw [if_neg (by omega), if_neg (by omega), if_neg (by omega), if_pos h]
theorem textS_5 {v : Vl} (h : v.k = 5) : Lx.textS v = str (Lx.hexT (bts v.t)) := by
 unfold Lx.textS; rw [if_neg (by omega), if_neg (by omega), if_neg (by omega), if_neg (by omega)]
def tvE (v : Vl) (l : Value) (u : ByteArray) (e : Int) : List Value := vE v l ++ [.string u, .int .i64 e]
theorem xtexts_is (v : Vl) (hv : v.Sz) (hk : v.k = 1 \/ v.k = 2 \/ v.k = 3 \/ v.k = 4 \/ v.k = 5) (l : Value) (n : Nat) (hl : SliceN l n) (w : World) (M : Int) (hV : Vars M w) : Calls Tryz.prog 31 #[v.val l] w fun e w' => e = .returned (.string (Lx.textS v)) /\ Below w.heap.size w w' := by
 have hone : ∀ u e, (tvE v l u e).all Value.oneCell' = true := fun u e => vE_one v l n hl _ rfl
 have hs : ∀ u e, X.evB (envE (.int .i64 M :: tvE v l u e)) (.isSl 18) = true := fun u e => isSl_ok hl rfl
 rcases hk with h | h | h | h | h
 ·rw [textS_1 h]
  exact tree_rv (env := tvE v l ⟨#[]⟩ 0) run_tx1 trivial (hone _ _) ⟨hs _ _, trivial⟩ rfl (by rw [<- h]; rfl) rfl hV
 ·rw [textS_2 h]
  refine tree_rv (env := tvE v l ⟨#[]⟩ 0) run_tx2 trivial (hone _ _) ⟨hs _ _, trivial⟩ rfl (by rw [<- h]; rfl) ?_ hV
  show (bif v.b then V.str [116, 114, 117, 101] else .str [102, 97, 108, 115, 101] : V).den L0 _ = _
  cases v.b <;> rfl
 ·rw [textS_3 h]
  obtain ⟨⟨u, e⟩, hu⟩ : ∃ q, textR v.n v.s v.S = q := ⟨_, rfl⟩
  have hd := ptext_is v.n v.s v.S hv.s u e hu
  have a3 : ((Tree.leaf (xs 19)).at (envE (.int .i64 M :: tvE v l u e))).den L0 (envE (.int .i64 M :: tvE v l u e)) = .string u := rfl
  have c1 : CallX.Ok Tryz.prog (envE (.int .i64 M :: tvE v l u e)) (Vars M) ⟨65, [deV 4], [], .tup [xs 19, xi 20]⟩ := ⟨rfl, fk, fun _ L w _ => hd w⟩
  have q := tree_rv run_tx3 ⟨c1, trivial⟩ (hone u e) ⟨hs u e, trivial⟩ rfl (av := #[v.val l]) (by rw [<- h]; rfl) a3 hV
  rw [hu]
  exact q
 ·rw [textS_4 h]
  obtain ⟨⟨u, e⟩, hu⟩ : ∃ q, Mo.textM v.m = q := ⟨_, rfl⟩
  have hd : ∀ w, Vars M w -> Calls Tryz.prog 66 #[v.m.val] w fun r w' => r = .returned (.tuple #[.string u, .int .i64 e]) /\ Below w.heap.size w w' := fun w hV => by
   have q := ptext_m v.m hv.m w M hV
   unfold textV at q
   rwa [hu] at q
  have a3 : ((Tree.leaf (xs 19)).at (envE (.int .i64 M :: tvE v l u e))).den L0 (envE (.int .i64 M :: tvE v l u e)) = .string u := rfl
  have c1 : CallX.Ok Tryz.prog (envE (.int .i64 M :: tvE v l u e)) (Vars M) ⟨66, [moV 7], [], .tup [xs 19, xi 20]⟩ := ⟨rfl, fk, fun _ L w hV => hd w hV⟩
  have q := tree_rv run_tx4 ⟨c1, trivial⟩ (hone u e) ⟨hs u e, trivial⟩ rfl (av := #[v.val l]) (by rw [<- h]; rfl) a3 hV
  rw [hu]
  exact q
 ·rw [textS_5 h]
  obtain ⟨k, t, b, n, s, S, m⟩ := v
  cases h
  exact xtext5_is t hv.t b n s S m l w

def rxN : Tree := .leaf (.tup [.str [], it 2])
def rxQ (k : V) : CallX := ⟨18, [vl k (xs 2) (xb 3) (xb 4) (xs 5) (xi 6) (moL 7) (.atom 18)], [], xi 19⟩
theorem run_rx1 : chk (runTr Tryz.prog nG (fun _ => none) gd moT [rxQ (it 1)] 100 14 [vaK 1 1 (.atom 18)] h0) (.node (.eq (.at 19) (.int 0)) (.leaf (.tup [xs 2, it 0])) rxN) [(.isSl 18, true)] = true := by decide +kernel
theorem run_rx2 : chk (runTr Tryz.prog nG (fun _ => none) gd moT [rxQ (it 2)] 100 14 [vaK 2 1 (.atom 18)] h0) (.node (.eq (.at 19) (.int 0)) (.node (.at 3) (.leaf (.tup [.str [116, 114, 117, 101], it 0])) (.leaf (.tup [.str [102, 97, 108, 115, 101], it 0]))) rxN) [(.isSl 18, true)] = true := by decide +kernel
theorem run_rx3 : chk (runTr Tryz.prog nG (fun _ => none) gd moT [rxQ (it 3), ⟨32, [deV 4], [], .tup [xs 20, xi 21]⟩] 100 14 [vaK 3 1 (.atom 18)] h0) (.node (.eq (.at 19) (.int 0)) (.leaf (.tup [xs 20, xi 21])) rxN) [(.isSl 18, true)] = true := by decide +kernel
theorem run_rx4 : chk (runTr Tryz.prog nG (fun _ => none) gd moT [rxQ (it 4), ⟨33, [moV 7], [], .tup [xs 20, xi 21]⟩] 100 14 [vaK 4 1 (.atom 18)] h0) (.node (.eq (.at 19) (.int 0)) (.leaf (.tup [xs 20, xi 21])) rxN) [(.isSl 18, true)] = true := by decide +kernel
theorem run_rx0 : chk (runTr Tryz.prog nG (fun _ => none) gd moT [rxQ (xi 1)] 100 14 [vaV 1 (.atom 18)] h0) (.node (.eq (.at 19) (.int 0)) (.leaf (.tup [xs 2, it 0])) rxN) noKi = true := by decide +kernel
def okT (o : Bool) (t : ByteArray) : Value := bif o then .tuple #[.string t, .int .i64 0] else .tuple #[.string ⟨#[]⟩, .int .i64 2]
def rxE (v : Vl) (l : Value) (o : Bool) (u : ByteArray) (e : Int) : List Value := vE v l ++ [.int .i64 (chI o), .string u, .int .i64 e]
theorem xrtx_core (v : Vl) (hv : v.Sz) (l : Value) (n : Nat) (hl : SliceN l n) (o : Bool) (h5 : v.k ≠ 5) (h6 : v.k ≠ 6) (w : World) (M : Int) (hck : ∀ w, Vars M w -> Calls Tryz.prog 18 #[v.val l] w fun e w' => e = .returned (.int .i64 (chI o)) /\ Below w.heap.size w w')
  (ho3 : o = true -> v.k = 3 -> (textR v.n v.s v.S).2 = 0) (ho4 : o = true -> v.k = 4 -> (Mo.textM v.m).2 = 0) (hoK : o = true -> v.k = 1 \/ v.k = 2 \/ v.k = 3 \/ v.k = 4) (hV : Vars M w) : Calls Tryz.prog 14 #[v.val l] w fun e w' => e = .returned (okT o (Lx.textS v)) /\ Below w.heap.size w w' := by
 have hone : ∀ u e, (rxE v l o u e).all Value.oneCell' = true := fun u e => vE_one v l n hl _ rfl
 have hs : ∀ u e, X.evB (envE (.int .i64 M :: rxE v l o u e)) (.isSl 18) = true := fun u e => isSl_ok hl rfl
 have nd : ∀ (u : ByteArray) (e : Int) (t : Tree), ((Tree.node (.eq (.at 19) (.int 0)) t rxN).at (envE (.int .i64 M :: rxE v l o u e))).den L0 (envE (.int .i64 M :: rxE v l o u e)) = bif o then (t.at (envE (.int .i64 M :: rxE v l o u e))).den L0 (envE (.int .i64 M :: rxE v l o u e)) else .tuple #[.string ⟨#[]⟩, .int .i64 2] := fun u e t => by
  have d : X.evB (envE (.int .i64 M :: rxE v l o u e)) (.eq (.at 19) (.int 0)) = decide (chI o = 0) := rfl
  show (bif X.evB (envE (.int .i64 M :: rxE v l o u e)) (.eq (.at 19) (.int 0)) then _ else _ : V).den L0 _ = _
  rw [d, chI_zero]; cases o <;> rfl
 have q : ∀ (k : V) (u : ByteArray) (e : Int), (∀ L, (vl k (xs 2) (xb 3) (xb 4) (xs 5) (xi 6) (moL 7) (.atom 18)).den L (envE (.int .i64 M :: rxE v l o u e)) = v.val l) -> CallX.Ok Tryz.prog (envE (.int .i64 M :: rxE v l o u e)) (Vars M) (rxQ k) := fun k u e hk => by
  refine ⟨rfl, fk, fun _ L w hV => ?_⟩
  have e1 : V.dens L (envE (.int .i64 M :: rxE v l o u e)) [vl k (xs 2) (xb 3) (xb 4) (xs 5) (xi 6) (moL 7) (.atom 18)] = [v.val l] := by simp only [V.dens, hk]
  show Calls _ _ (V.dens L (envE (.int .i64 M :: rxE v l o u e)) [vl k (xs 2) (xb 3) (xb 4) (xs 5) (xi 6) (moL 7) (.atom 18)]).toArray w fun x w' => x = .returned (.int .i64 (chI o)) /\ Below w.heap.size w w'
  rw [e1]
  exact hck w hV
 by_cases h1 : v.k = 1
 ·have a3 := nd ⟨#[]⟩ 0 (.leaf (.tup [xs 2, it 0]))
  refine tree_rv run_rx1 ⟨q (it 1) ⟨#[]⟩ 0 (fun L => by rw [show it 1 = V.int .i64 v.k by rw [h1]; rfl]; rfl), trivial⟩ (hone _ _) ⟨hs _ _, trivial⟩ rfl (by rw [<- h1]; rfl) (a3.trans ?_) hV
  rw [textS_1 h1]; rfl
 by_cases h2 : v.k = 2
 ·have a3 := nd ⟨#[]⟩ 0 (.node (.at 3) (.leaf (.tup [.str [116, 114, 117, 101], it 0])) (.leaf (.tup [.str [102, 97, 108, 115, 101], it 0])))
  refine tree_rv run_rx2 ⟨q (it 2) ⟨#[]⟩ 0 (fun L => by rw [show it 2 = V.int .i64 v.k by rw [h2]; rfl]; rfl), trivial⟩ (hone _ _) ⟨hs _ _, trivial⟩ rfl (by rw [<- h2]; rfl) (a3.trans ?_) hV
  rw [textS_2 h2]
  show (bif o then (bif v.b then V.tup [.str [116, 114, 117, 101], it 0] else .tup [.str [102, 97, 108, 115, 101], it 0]).den L0 _ else _) = _
  cases v.b <;> rfl
 by_cases h3 : v.k = 3
 ·obtain ⟨⟨u, e⟩, hu⟩ : ∃ q, textR v.n v.s v.S = q := ⟨_, rfl⟩
  have a3 := nd u e (.leaf (.tup [xs 20, xi 21]))
  refine tree_rv run_rx3 ⟨q (it 3) u e (fun L => by rw [show it 3 = V.int .i64 v.k by rw [h3]; rfl]; rfl), ⟨rfl, fk, fun _ L w _ => rtext_is v.n v.s v.S hv.s u e hu w⟩, trivial⟩ (hone _ _) ⟨hs _ _, trivial⟩ rfl (by rw [<- h3]; rfl) (a3.trans ?_) hV
  have h0 := ho3
  rw [hu] at h0
  rw [textS_3 h3, hu]
  cases o with
  | false => rfl
  | true =>
   have e0 : e = 0 := h0 rfl h3
   subst e0; rfl
 by_cases h4 : v.k = 4
 ·obtain ⟨⟨u, e⟩, hu⟩ : ∃ q, Mo.textM v.m = q := ⟨_, rfl⟩
  have hd : ∀ w, Vars M w -> Calls Tryz.prog 33 #[v.m.val] w fun r w' => r = .returned (.tuple #[.string u, .int .i64 e]) /\ Below w.heap.size w w' := fun w hV => by
   have q := rtext_m v.m hv.m w M hV
   unfold textV at q
   rwa [hu] at q
  have a3 := nd u e (.leaf (.tup [xs 20, xi 21]))
  refine tree_rv run_rx4 ⟨q (it 4) u e (fun L => by rw [show it 4 = V.int .i64 v.k by rw [h4]; rfl]; rfl), ⟨rfl, fk, fun _ L w hV => hd w hV⟩, trivial⟩ (hone _ _) ⟨hs _ _, trivial⟩ rfl (by rw [<- h4]; rfl) (a3.trans ?_) hV
  have h0 := ho4
  rw [hu] at h0
  rw [textS_4 h4, hu]
  cases o with
  | false => rfl
  | true =>
   have e0 : e = 0 := h0 rfl h4
   subst e0; rfl
 ·have hof : o = false := by
   cases o with
   | false => rfl
   | true => rcases hoK rfl with h | h | h | h <;> contradiction
  have a3 := nd ⟨#[]⟩ 0 (.leaf (.tup [xs 2, it 0]))
  refine tree_rv run_rx0 ⟨q (xi 1) ⟨#[]⟩ 0 (fun L => rfl), trivial⟩ (hone _ _) ⟨decide_eq_false h1, decide_eq_false h5, decide_eq_false h2, decide_eq_false h3, decide_eq_false h4, decide_eq_false h6, hs _ _, trivial⟩ rfl rfl (a3.trans ?_) hV
  subst hof; rfl

def lnT : Tree := .node (.eq (.at 19) (.int 0)) (.node (.eq (.at 1) (.int 5)) (.leaf (.tup [.xi .i64 (.len (.at 2)), it 0])) (.node (.eq (.at 1) (.int 6)) (.leaf (.tup [.xi .i64 (.slen 18), it 0])) (.leaf (.tup [it 0, it 2])))) (.leaf (.tup [it 0, it 2]))
def lnF : Fx := [(.eq (.at 1) (.int 1), false), (.isSl 18, true)]
theorem run_plen9 : chk (runTr Tryz.prog nG (fun _ => none) gd moT [⟨17, [vaV 1 (.atom 18)], [], xi 19⟩] 100 15 [vaV 1 (.atom 18)] h0) lnT lnF = true := by decide +kernel
theorem run_rlen9 : chk (runTr Tryz.prog nG (fun _ => none) gd moT [⟨18, [vaV 1 (.atom 18)], [], xi 19⟩] 100 16 [vaV 1 (.atom 18)] h0) lnT lnF = true := by decide +kernel
def lenV (o : Bool) (v : Vl) (n c : Nat) : Value := bif o then (if v.k = 1 then .tuple #[.int .i64 c, .int .i64 0] else if v.k = 5 then .tuple #[.int .i64 v.t.size, .int .i64 0] else if v.k = 6 then .tuple #[.int .i64 n, .int .i64 0] else .tuple #[.int .i64 0, .int .i64 2]) else .tuple #[.int .i64 0, .int .i64 2]
def lnE (v : Vl) (l : Value) (o : Bool) : List Value := vE v l ++ [.int .i64 (chI o)]
theorem xlen_core (f g : FuncId) (hrun : chk (runTr Tryz.prog nG (fun _ => none) gd moT [⟨g, [vaV 1 (.atom 18)], [], xi 19⟩] 100 f [vaV 1 (.atom 18)] h0) lnT lnF = true) (hg : ∃ fn, Tryz.prog.funcs[g]? = some fn /\ (fn.name == "runtime.NumGoroutine") = false /\ fn.body.isNone = false)
  (v : Vl) (l : Value) (n c : Nat) (hl : SliceN l n) (o : Bool) (h1 : v.k ≠ 1) (w : World) (M : Int) (hck : ∀ w', VK M w w' -> Calls Tryz.prog g #[v.val l] w' fun e w'' => e = .returned (.int .i64 (chI o)) /\ Below w'.heap.size w' w'') (hV : Vars M w) :
  Calls Tryz.prog f #[v.val l] w fun e w' => e = .returned (lenV o v n c) /\ Below w.heap.size w w' := by
 have hone : (lnE v l o).all Value.oneCell' = true := vE_one v l n hl _ rfl
 have hs : X.evB (envE (.int .i64 M :: lnE v l o)) (.isSl 18) = true := isSl_ok hl rfl
 have hln : X.evI (envE (.int .i64 M :: lnE v l o)) (.slen 18) = (n : Int) := slen_ok hl rfl
 have a3 : (lnT.at (envE (.int .i64 M :: lnE v l o))).den L0 (envE (.int .i64 M :: lnE v l o)) = lenV o v n c := by
  have e : lnT.at (envE (.int .i64 M :: lnE v l o)) = bif decide (chI o = 0) then bif decide (v.k = 5) then V.tup [.xi .i64 (.len (.at 2)), it 0] else bif decide (v.k = 6) then V.tup [.xi .i64 (.slen 18), it 0] else .tup [it 0, it 2] else .tup [it 0, it 2] := rfl
  rw [e, chI_zero]
  unfold lenV
  cases o with
  | false => rfl
  | true =>
   rw [cond_true, cond_true, if_neg h1]
   by_cases h5 : v.k = 5
   ·rw [decide_eq_true h5, if_pos h5]; rfl
   ·rw [decide_eq_false h5, if_neg h5, cond_false]
    by_cases h6 : v.k = 6
    ·rw [decide_eq_true h6, if_pos h6]
     show Value.tuple #[.int .i64 (X.evI (envE (.int .i64 M :: lnE v l true)) (.slen 18)), .int .i64 0] = _
     rw [hln]
    ·rw [decide_eq_false h6, if_neg h6]; rfl
 have c1 : CallX.Ok Tryz.prog (envE (.int .i64 M :: lnE v l o)) (VK M w) ⟨g, [vaV 1 (.atom 18)], [], xi 19⟩ := ⟨rfl, hg, fun _ L w' hV => hck w' hV⟩
 exact tree_rk hrun ⟨c1, trivial⟩ hone ⟨decide_eq_false h1, hs, trivial⟩ rfl rfl a3 hV
def ptT : Tree := .node (.eq (.at 19) (.int 0)) (.leaf (.tup [xs 20, it 0])) (.leaf (.tup [.str [], it 2]))
theorem run_ptext9 : chk (runTr Tryz.prog nG (fun _ => none) gd moT [⟨17, [vaV 1 (.atom 18)], [], xi 19⟩, ⟨31, [vaV 1 (.atom 18)], [(.eq (.at 19) (.int 0), true)], xs 20⟩] 100 13 [vaV 1 (.atom 18)] h0) ptT [(.isSl 18, true)] = true := by decide +kernel
theorem xptext_core (v : Vl) (l : Value) (n : Nat) (hl : SliceN l n) (o : Bool) (t : ByteArray) (w : World) (M : Int) (hck : ∀ w', VK M w w' -> Calls Tryz.prog 17 #[v.val l] w' fun e w'' => e = .returned (.int .i64 (chI o)) /\ Below w'.heap.size w' w'')
  (ht : o = true -> ∀ w', VK M w w' -> Calls Tryz.prog 31 #[v.val l] w' fun e w'' => e = .returned (.string t) /\ Below w'.heap.size w' w'') (hV : Vars M w) : Calls Tryz.prog 13 #[v.val l] w fun e w' => e = .returned (okT o t) /\ Below w.heap.size w w' := by
 obtain ⟨r, hr⟩ : ∃ r, vE v l ++ [.int .i64 (chI o), .string t] = r := ⟨_, rfl⟩
 have hone : r.all Value.oneCell' = true := hr ▸ vE_one v l n hl _ rfl
 have hs : X.evB (envE (.int .i64 M :: r)) (.isSl 18) = true := isSl_ok hl (hr ▸ rfl)
 have a2 : (V.dens L0 (envE (.int .i64 M :: r)) [vaV 1 (.atom 18)]).toArray = #[v.val l] := hr ▸ rfl
 have a3 : (ptT.at (envE (.int .i64 M :: r))).den L0 (envE (.int .i64 M :: r)) = okT o t := by
  have e : ptT.at (envE (.int .i64 M :: r)) = bif decide (chI o = 0) then V.tup [xs 20, it 0] else .tup [.str [], it 2] := hr ▸ rfl
  rw [e, chI_zero, <- hr]
  cases o <;> rfl
 have c1 : CallX.Ok Tryz.prog (envE (.int .i64 M :: r)) (VK M w) ⟨17, [vaV 1 (.atom 18)], [], xi 19⟩ := ⟨rfl, fk, fun _ L w' hV => by subst hr; exact hck w' hV⟩
 have c2 : CallX.Ok Tryz.prog (envE (.int .i64 M :: r)) (VK M w) ⟨31, [vaV 1 (.atom 18)], [(.eq (.at 19) (.int 0), true)], xs 20⟩ := ⟨rfl, fk, fun hp L w' hV => by
  subst hr
  have h0 : decide (chI o = 0) = true := hp.1
  rw [chI_zero] at h0
  exact ht h0 w' hV⟩
 exact tree_rk run_ptext9 ⟨c1, c2, trivial⟩ hone ⟨hs, trivial⟩ rfl a2 a3 hV
def cl1T : Tree := .node (.eq (.at 1) (.int 6)) (.leaf (.bool true)) (.node (.eq (.at 19) (.int 0)) (.leaf (.bool false)) (.leaf (.bool true)))
theorem run_clos : chk (runTr Tryz.prog nG (fun _ => none) gd moT [⟨17, [vaV 1 (.atom 18)], [(.eq (.at 1) (.int 6), false)], xi 19⟩] 100 37 [vaV 1 (.atom 18)] h0) cl1T [(.isSl 18, true)] = true := by decide +kernel
theorem xclos_is (v : Vl) (hv : v.Sz) (l : Value) (n : Nat) (hl : SliceN l n) (w : World) (M : Int) (hV : Vars M w) : Calls Tryz.prog 37 #[v.val l] w fun e w' => e = .returned (.bool (decide (v.k = 6) || !Lx.okV v n false)) /\ Below w.heap.size w w' := by
 obtain ⟨o, ho⟩ : ∃ o, Lx.okV v n false = o := ⟨_, rfl⟩
 have hone : (lnE v l o).all Value.oneCell' = true := vE_one v l n hl _ rfl
 have hs : X.evB (envE (.int .i64 M :: lnE v l o)) (.isSl 18) = true := isSl_ok hl rfl
 have a3 : (cl1T.at (envE (.int .i64 M :: lnE v l o))).den L0 (envE (.int .i64 M :: lnE v l o)) = .bool (decide (v.k = 6) || !o) := by
  have e : cl1T.at (envE (.int .i64 M :: lnE v l o)) = bif decide (v.k = 6) then V.bool true else bif decide (chI o = 0) then .bool false else .bool true := rfl
  rw [e, chI_zero]
  cases decide (v.k = 6) <;> cases o <;> rfl
 have c1 : CallX.Ok Tryz.prog (envE (.int .i64 M :: lnE v l o)) (Vars M) ⟨17, [vaV 1 (.atom 18)], [(.eq (.at 1) (.int 6), false)], xi 19⟩ := ⟨rfl, fk, fun hp L w' hV => by
  have h6 : decide (v.k = 6) = false := hp.1
  have q := xcheck_is v hv l n hl false w' M (listOk_no (of_decide_eq_false h6)) hV
  rw [ho] at q
  exact q⟩
 rw [ho]
 exact tree_rv run_clos ⟨c1, trivial⟩ hone ⟨hs, trivial⟩ rfl rfl a3 hV
end Go.Proofs.YthoojcdjjecogaaGreatDoor
namespace Go.Proofs.YthoojcdjjecogaaGreatDoor
open Go Go.RowKit Go.Ex

structure El where
 v : Vl
 l : Value
 n : Nat
instance : Inhabited El := ⟨⟨Lx.zero, nilL, 0⟩⟩
def El.enc (e : El) : List Value := vE e.v e.l
def El.val (e : El) : Value := e.v.val e.l
theorem El.enc_length (e : El) : e.enc.length = 18 := rfl
structure Holds (w : World) (b off : Nat) (es : List El) : Prop where
 lt : b < w.heap.size
 cell : ∀ j e, es[j]? = some e -> ∀ i v, e.enc[i]? = some v -> w.cell? ⟨b, off + j * 18 + i, none⟩ = some v
def Lst (w : World) (l : Value) (es : List El) : Prop := (es = [] /\ ∃ a c, l = .slice a 0 c) \/ ∃ b off c, l = .slice (some ⟨b, off, none⟩) es.length c /\ Holds w b off es
theorem Lst.slice {w : World} {l : Value} {es : List El} (h : Lst w l es) : SliceN l es.length := by
 rcases h with ⟨rfl, a, c, rfl⟩ | ⟨b, off, c, rfl, _⟩
 ·exact ⟨a, c, rfl⟩
 ·exact ⟨_, c, rfl⟩
theorem keeps_cell {w w' : World} (h : Keeps w w') {b o : Nat} (hb : b < w.heap.size) : w'.cell? ⟨b, o, none⟩ = w.cell? ⟨b, o, none⟩ := by
 unfold World.cell?
 rw [h.block b hb]
theorem Holds.keep {w w' : World} {b off : Nat} {es : List El} (h : Holds w b off es) (hk : Keeps w w') : Holds w' b off es :=
 ⟨Nat.lt_of_lt_of_le h.lt hk.size, fun j e he i v hv => (keeps_cell hk h.lt).trans (h.cell j e he i v hv)⟩
theorem Lst.keep {w w' : World} {l : Value} {es : List El} (h : Lst w l es) (hk : Keeps w w') : Lst w' l es := by
 rcases h with h | ⟨b, off, c, e, h⟩
 ·exact .inl h
 ·exact .inr ⟨b, off, c, e, h.keep hk⟩
def Deep (w : World) (l : Value) (es : List El) : Prop := Lst w l es /\ ∀ e ∈ es, SliceN e.l e.n /\ ∃ fs, Lst w e.l fs /\ ∀ f ∈ fs, SliceN f.l f.n
structure El.Sz (e : El) : Prop where
 v : e.v.Sz
 l : SliceN e.l e.n
namespace Lx
def badE (e : El) : Bool := decide (e.v.k = 6) || !okV e.v e.n false
def badL (es : List El) : Bool := es.any badE
def joinL (ts : List ByteArray) : ByteArray := ⟨(Lib.join (ts.map (·.data.toList)) [32]).toArray⟩
theorem joinL_nil : joinL [] = ⟨#[]⟩ := rfl
theorem joinL_one (t : ByteArray) : joinL [t] = t := by
 unfold joinL
 rw [List.map_cons, List.map_nil, Lib.join_one]
theorem joinL_snoc (ts : List ByteArray) (t : ByteArray) (h : ts ≠ []) : (joinL (ts ++ [t])).data.toList = (joinL ts).data.toList ++ [32] ++ t.data.toList := by
 cases ts with
 | nil => exact absurd rfl h
 | cons a r =>
  unfold joinL
  rw [List.cons_append, List.map_cons, List.map_cons, Lib.join_cons, Lib.join_cons, List.map_append]
  simp only [Lib.joinTail, List.map_append, List.flatten_append, List.map_cons, List.map_nil, List.flatten_cons, List.flatten_nil, List.append_nil, List.append_assoc]
def elT (e : El) : ByteArray := textS e.v
def listT (es : List El) : ByteArray := joinL (es.map elT)
theorem joinL_size (ts : List ByteArray) (N : Nat) (h : ∀ t ∈ ts, t.size <= N) : (joinL ts).size <= ts.length * (N + 1) := by
 have key : ∀ r : List ByteArray, (∀ t ∈ r, t.size <= N) -> (Lib.joinTail [32] (r.map (·.data.toList))).length <= r.length * (N + 1) := by
  intro r hr
  induction r with
  | nil => simp [Lib.joinTail]
  | cons a r ih =>
   have h1 := ih fun t ht => hr t (List.mem_cons_of_mem _ ht)
   have h2 : a.data.size <= N := hr a (List.mem_cons_self ..)
   simp only [Lib.joinTail, List.map_cons, List.flatten_cons, List.length_append, List.length_cons, List.length_nil, Array.length_toList] at h1 ⊢
   rw [Nat.succ_mul]
   omega
 cases ts with
 | nil => simp [joinL_nil]; rfl
 | cons a r =>
  have h1 := key r fun t ht => h t (List.mem_cons_of_mem _ ht)
  have h2 : a.data.size <= N := h a (List.mem_cons_self ..)
  show (Lib.join _ _).toArray.size <= _
  rw [List.size_toArray, List.map_cons, Lib.join_cons, List.length_append, Array.length_toList, List.length_cons, Nat.succ_mul]
  omega
end Lx
end Go.Proofs.YthoojcdjjecogaaGreatDoor
namespace Go.Proofs.YthoojcdjjecogaaGreatDoor
open Go.ChangeShapes Go.WideShapes Go.ChangeAt Go.ChangeMaps Go.RowKit

theorem list_choose {α : Type} (Q : Nat -> α -> Prop) : ∀ n, (∀ j, j < n -> ∃ e, Q j e) -> ∃ es : List α, es.length = n /\ ∀ j e, es[j]? = some e -> Q j e
 | 0, _ => ⟨[], rfl, fun j e h => by simp at h⟩
 | n + 1, h => by
  obtain ⟨es, hl, hes⟩ := list_choose Q n fun j hj => h j (by omega)
  obtain ⟨e, he⟩ := h n (by omega)
  refine ⟨es ++ [e], by simp [hl], fun j x hx => ?_⟩
  by_cases hj : j < n
  ·rw [List.getElem?_append_left (by omega)] at hx
   exact hes j x hx
  ·have hlt := (List.getElem?_eq_some_iff.1 hx).1
   rw [List.length_append, hl] at hlt
   have hjn : j = n := by simp at hlt; omega
   subst hjn
   rw [List.getElem?_append_right (by omega), hl, Nat.sub_self] at hx
   simp at hx
   rw [<- hx]
   exact he
section
variable {H : Type} {enc : TypeId × Value -> H} {W : World} {base : Nat} {sp : Nat -> Bool} {held : Bool}
set_option maxRecDepth 100000
theorem dec_cells {fuel : Nat} {cs : List Value} {x : DataW H × List MemPlace} (h : DataW.trod enc Tryz.prog W base sp held fuel 24 cs = some x) : ∃ (n : Bool) (s : ByteArray) (S : Int), cs = [.bool n, .string s, .int .i64 S] := by
 obtain ⟨xs, n, _, _, hsz, hlen, hfs⟩ := DataW.trod_struct Tryz.underlying24 h
 rw [decCells] at hsz
 obtain ⟨x0, h0⟩ : ∃ x, xs[0]? = some x := ⟨_, List.getElem?_eq_getElem (by rw [hlen]; decide)⟩
 obtain ⟨x1, h1⟩ : ∃ x, xs[1]? = some x := ⟨_, List.getElem?_eq_getElem (by rw [hlen]; decide)⟩
 obtain ⟨x2, h2⟩ : ∃ x, xs[2]? = some x := ⟨_, List.getElem?_eq_getElem (by rw [hlen]; decide)⟩
 have e0 : DataW.trod enc Tryz.prog W base sp held n 4 ((cs.drop 0).take (Tryz.prog.cellsOf 4)) = some x0 := (hfs 0 _ rfl).trans h0
 rw [boolCells] at e0
 have e1 : DataW.trod enc Tryz.prog W base sp held n 9 ((cs.drop 1).take (Tryz.prog.cellsOf 9)) = some x1 := (hfs 1 _ rfl).trans h1
 rw [strCellsN] at e1
 have e2 : DataW.trod enc Tryz.prog W base sp held n 3 ((cs.drop 2).take (Tryz.prog.cellsOf 3)) = some x2 := (hfs 2 _ rfl).trans h2
 rw [intCells] at e2
 obtain ⟨b, hb, _⟩ := DataW.trod_bool Tryz.underlying4 e0
 obtain ⟨s, hs, _, hsl⟩ := DataW.trod_string Tryz.underlying9 e1
 obtain ⟨S, hS, _⟩ := DataW.trod_int Tryz.underlying3 e2
 refine ⟨b, s, S, ?_⟩
 clear h hfs e0 e1 e2
 match cs, hsz with
 | [a, b', c], _ => simp_all
theorem mo_cells {fuel : Nat} {cs : List Value} {x : DataW H × List MemPlace} (h : DataW.trod enc Tryz.prog W base sp held fuel 26 cs = some x) : ∃ m : Mo, cs = m.list := by
 obtain ⟨xs, n, _, _, hsz, hlen, hfs⟩ := DataW.trod_struct Tryz.underlying26 h
 rw [momCells] at hsz
 have hx : ∀ i, i < 9 -> ∃ x, xs[i]? = some x := fun i hi => ⟨_, List.getElem?_eq_getElem (by rw [hlen]; exact hi)⟩
 obtain ⟨x0, h0⟩ := hx 0 (by decide)
 obtain ⟨x1, h1⟩ := hx 1 (by decide)
 obtain ⟨x2, h2⟩ := hx 2 (by decide)
 obtain ⟨x3, h3⟩ := hx 3 (by decide)
 obtain ⟨x4, h4⟩ := hx 4 (by decide)
 obtain ⟨x5, h5⟩ := hx 5 (by decide)
 obtain ⟨x6, h6⟩ := hx 6 (by decide)
 obtain ⟨x7, h7⟩ := hx 7 (by decide)
 obtain ⟨x8, h8⟩ := hx 8 (by decide)
 have e0 : DataW.trod enc Tryz.prog W base sp held n 3 ((cs.drop 0).take (Tryz.prog.cellsOf 3)) = some x0 := (hfs 0 _ rfl).trans h0
 have e1 : DataW.trod enc Tryz.prog W base sp held n 3 ((cs.drop 1).take (Tryz.prog.cellsOf 3)) = some x1 := (hfs 1 _ rfl).trans h1
 have e2 : DataW.trod enc Tryz.prog W base sp held n 3 ((cs.drop 2).take (Tryz.prog.cellsOf 3)) = some x2 := (hfs 2 _ rfl).trans h2
 have e3 : DataW.trod enc Tryz.prog W base sp held n 3 ((cs.drop 3).take (Tryz.prog.cellsOf 3)) = some x3 := (hfs 3 _ rfl).trans h3
 have e4 : DataW.trod enc Tryz.prog W base sp held n 3 ((cs.drop 4).take (Tryz.prog.cellsOf 3)) = some x4 := (hfs 4 _ rfl).trans h4
 have e5 : DataW.trod enc Tryz.prog W base sp held n 3 ((cs.drop 5).take (Tryz.prog.cellsOf 3)) = some x5 := (hfs 5 _ rfl).trans h5
 have e6 : DataW.trod enc Tryz.prog W base sp held n 24 ((cs.drop 6).take (Tryz.prog.cellsOf 24)) = some x6 := (hfs 6 _ rfl).trans h6
 have e7 : DataW.trod enc Tryz.prog W base sp held n 4 ((cs.drop 9).take (Tryz.prog.cellsOf 4)) = some x7 := (hfs 7 _ rfl).trans h7
 have e8 : DataW.trod enc Tryz.prog W base sp held n 3 ((cs.drop 10).take (Tryz.prog.cellsOf 3)) = some x8 := (hfs 8 _ rfl).trans h8
 rw [intCells] at e0 e1 e2 e3 e4 e5 e8
 rw [decCells] at e6
 rw [boolCells] at e7
 obtain ⟨q0, f0, _⟩ := DataW.trod_int Tryz.underlying3 e0
 obtain ⟨q1, f1, _⟩ := DataW.trod_int Tryz.underlying3 e1
 obtain ⟨q2, f2, _⟩ := DataW.trod_int Tryz.underlying3 e2
 obtain ⟨q3, f3, _⟩ := DataW.trod_int Tryz.underlying3 e3
 obtain ⟨q4, f4, _⟩ := DataW.trod_int Tryz.underlying3 e4
 obtain ⟨q5, f5, _⟩ := DataW.trod_int Tryz.underlying3 e5
 obtain ⟨b, s, S, f6⟩ := dec_cells e6
 obtain ⟨q7, f7, _⟩ := DataW.trod_bool Tryz.underlying4 e7
 obtain ⟨q8, f8, _⟩ := DataW.trod_int Tryz.underlying3 e8
 refine ⟨⟨q0, q1, q2, q3, q4, q5, b, s, S, q7, q8⟩, ?_⟩
 clear h hfs e0 e1 e2 e3 e4 e5 e6 e7 e8
 match cs, hsz with
 | [_, _, _, _, _, _, _, _, _, _, _], _ =>
  simp only [List.drop_zero, List.drop_succ_cons, List.take_succ_cons, List.take_zero, List.cons.injEq, and_true] at f0 f1 f2 f3 f4 f5 f6 f7 f8
  obtain ⟨f6, g6, k6⟩ := f6
  subst f0 f1 f2 f3 f4 f5 f6 g6 k6 f7 f8
  rfl
theorem valCells : Tryz.prog.cellsOf 29 = 18 := by kernel_rfl
theorem vlsCells : Tryz.prog.cellsOf 27 = 1 := by kernel_rfl
theorem va_cells {fuel : Nat} {cs : List Value} {x : DataW H × List MemPlace} (h : DataW.trod enc Tryz.prog W base sp held fuel 29 cs = some x) :
  ∃ (v : Vl) (l : Value) (n : Nat) (y : DataW H × List MemPlace), cs = vE v l /\ DataW.trod enc Tryz.prog W base sp held n 27 [l] = some y := by
 obtain ⟨xs, n, _, _, hsz, hlen, hfs⟩ := DataW.trod_struct Tryz.underlying29 h
 rw [valCells] at hsz
 have hx : ∀ i, i < 6 -> ∃ x, xs[i]? = some x := fun i hi => ⟨_, List.getElem?_eq_getElem (by rw [hlen]; exact hi)⟩
 obtain ⟨x0, h0⟩ := hx 0 (by decide)
 obtain ⟨x1, h1⟩ := hx 1 (by decide)
 obtain ⟨x2, h2⟩ := hx 2 (by decide)
 obtain ⟨x3, h3⟩ := hx 3 (by decide)
 obtain ⟨x4, h4⟩ := hx 4 (by decide)
 obtain ⟨x5, h5⟩ := hx 5 (by decide)
 have e0 : DataW.trod enc Tryz.prog W base sp held n 3 ((cs.drop 0).take (Tryz.prog.cellsOf 3)) = some x0 := (hfs 0 _ rfl).trans h0
 have e1 : DataW.trod enc Tryz.prog W base sp held n 9 ((cs.drop 1).take (Tryz.prog.cellsOf 9)) = some x1 := (hfs 1 _ rfl).trans h1
 have e2 : DataW.trod enc Tryz.prog W base sp held n 4 ((cs.drop 2).take (Tryz.prog.cellsOf 4)) = some x2 := (hfs 2 _ rfl).trans h2
 have e3 : DataW.trod enc Tryz.prog W base sp held n 24 ((cs.drop 3).take (Tryz.prog.cellsOf 24)) = some x3 := (hfs 3 _ rfl).trans h3
 have e4 : DataW.trod enc Tryz.prog W base sp held n 26 ((cs.drop 6).take (Tryz.prog.cellsOf 26)) = some x4 := (hfs 4 _ rfl).trans h4
 have e5 : DataW.trod enc Tryz.prog W base sp held n 27 ((cs.drop 17).take (Tryz.prog.cellsOf 27)) = some x5 := (hfs 5 _ rfl).trans h5
 rw [intCells] at e0
 rw [strCellsN] at e1
 rw [boolCells] at e2
 rw [decCells] at e3
 rw [momCells] at e4
 rw [vlsCells] at e5
 obtain ⟨q0, f0, _⟩ := DataW.trod_int Tryz.underlying3 e0
 obtain ⟨q1, f1, _, _⟩ := DataW.trod_string Tryz.underlying9 e1
 obtain ⟨q2, f2, _⟩ := DataW.trod_bool Tryz.underlying4 e2
 obtain ⟨b, s, S, f3⟩ := dec_cells e3
 obtain ⟨m, f4⟩ := mo_cells e4
 clear h hfs e0 e1 e2 e3 e4
 match cs, hsz with
 | [_, _, _, _, _, _, _, _, _, _, _, _, _, _, _, _, _, l], _ =>
  simp only [List.drop_zero, List.drop_succ_cons, List.take_succ_cons, List.take_zero, List.cons.injEq, and_true] at f0 f1 f2 f3 f4 e5
  obtain ⟨f3, g3, k3⟩ := f3
  subst f0 f1 f2 f3 g3 k3
  refine ⟨⟨q0, q1, q2, b, s, S, m⟩, l, n, x5, ?_, e5⟩
  unfold vE Vl.list
  rw [<- f4]
  rfl
theorem open_list {fuel : Nat} {l : Value} {x : DataW H × List MemPlace} (h : DataW.trod enc Tryz.prog W base sp held fuel 27 [l] = some x) :
  ∃ es : List El, Lst W l es /\ ∀ e ∈ es, SliceN e.l e.n /\ ∃ (n : Nat) (y : DataW H × List MemPlace), DataW.trod enc Tryz.prog W base sp held n 27 [e.l] = some y := by
 rcases DataW.trod_slice Tryz.underlying27 h with ⟨hcs, _⟩ | ⟨a, len, cap, elems, rest, n, _, hcs, _, _, _, _, hel, helem, _, _⟩
 ·simp only [List.cons.injEq, and_true] at hcs
  exact ⟨[], .inl ⟨rfl, none, 0, hcs⟩, fun e he => absurd he List.not_mem_nil⟩
 ·simp only [List.cons.injEq, and_true] at hcs
  subst hcs
  rw [valCells] at helem
  have one : ∀ j, j < len -> ∃ e : El, World.cells? W base (a.add (j * 18)) 18 = some e.enc /\ SliceN e.l e.n /\ ∃ (n : Nat) (y : DataW H × List MemPlace), DataW.trod enc Tryz.prog W base sp held n 27 [e.l] = some y := by
   intro j hj
   have q := helem j hj
   rw [List.getElem?_eq_getElem (by omega)] at q
   obtain ⟨cs, hc, ht⟩ := Option.bind_eq_some_iff.1 q
   obtain ⟨v, l', n', y, rfl, hy⟩ := va_cells ht
   have hs : ∃ k, SliceN l' k := by
    rcases DataW.trod_slice Tryz.underlying27 hy with ⟨hcs, _⟩ | ⟨a', len', cap', _, _, _, _, hcs, _⟩
    ·simp only [List.cons.injEq, and_true] at hcs
     exact ⟨0, none, 0, hcs⟩
    ·simp only [List.cons.injEq, and_true] at hcs
     exact ⟨len', _, _, hcs⟩
   obtain ⟨k, hk⟩ := hs
   exact ⟨⟨v, l', k⟩, hc, hk, n', y, hy⟩
  obtain ⟨es, hl, hes⟩ := list_choose _ len one
  refine ⟨es, ?_, fun e he => ?_⟩
  ·by_cases h0 : len = 0
   ·subst h0
    exact .inl ⟨List.length_eq_zero_iff.1 hl, some a, cap, rfl⟩
   ·obtain ⟨b, off, spot⟩ := a
    have cellAt : ∀ j e, es[j]? = some e -> ∀ i v, e.enc[i]? = some v -> W.cell? (((⟨b, off, spot⟩ : Addr).add (j * 18)).add i) = some v := by
     intro j e he i v hv
     have q := (hes j e he).1
     unfold World.cells? at q
     split at q
     ·have hi : i < 18 := by have := (List.getElem?_eq_some_iff.1 hv).1; rw [El.enc_length] at this; exact this
      have := mapM_some_get q i i (by simp [hi])
      rw [this]
      exact hv
     ·cases q
    obtain ⟨e0, he0⟩ : ∃ e, es[0]? = some e := ⟨_, List.getElem?_eq_getElem (by omega)⟩
    have g0 := cellAt 0 e0 he0 0 _ rfl
    have hspot : spot = none := by simpa [Addr.add] using World.cell?_spot g0
    subst hspot
    have ad : ∀ o n : Nat, (⟨b, o, none⟩ : Addr).add n = ⟨b, o + n, none⟩ := fun o n => by
     unfold Addr.add
     split
     ·rename_i h; rw [h]; rfl
     ·rfl
    have hat : ∀ j i : Nat, ((⟨b, off, none⟩ : Addr).add (j * 18)).add i = ⟨b, off + j * 18 + i, none⟩ := fun j i => by rw [ad, ad]
    have hb : b < W.heap.size := by
     rw [hat 0] at g0
     rcases Nat.lt_or_ge b W.heap.size with h | h
     ·exact h
     ·rw [World.cell?, Array.getElem?_eq_none h] at g0; cases g0
    exact .inr ⟨b, off, cap, by rw [hl], hb, fun j e he i v hv => by rw [<- hat]; exact cellAt j e he i v hv⟩
  ·obtain ⟨j, hj⟩ := List.getElem?_of_mem he
   exact (hes j e hj).2
end
theorem open_va {H : Type} {enc : TypeId × Value -> H} {W : World} {r : Reach} {b0 base : Nat} {sp : Nat -> Bool} {held : Bool} {v : Value} {d : DataW H} {ps : List MemPlace} (hval : Value.okWide Tryz.prog W r b0 29 v) (hd : DataW.Trod enc Tryz.prog W base sp held 29 v d ps) :
  ∃ (x : Vl) (l : Value) (es : List El), v = x.val l /\ Deep W l es := by
 obtain ⟨cs, rfl, hsz⟩ := okWide_struct Tryz.underlying29 hval
 obtain ⟨fuel, hf⟩ := hd
 obtain ⟨x, l, n, y, hc, hy⟩ := va_cells hf
 obtain ⟨es, hl, hes⟩ := open_list hy
 refine ⟨x, l, es, ?_, hl, fun e he => ?_⟩
 ·show Value.agg cs = .agg _
  congr 1
  have : cs.toList = vE x l := hc
  rw [show x.list ++ [l] = cs.toList from this.symm, Array.toArray_toList]
 ·obtain ⟨h1, n', y', h2⟩ := hes e he
  obtain ⟨fs, hfs, hfs2⟩ := open_list h2
  exact ⟨h1, fs, hfs, fun f hf => (hfs2 f hf).1⟩
end Go.Proofs.YthoojcdjjecogaaGreatDoor
