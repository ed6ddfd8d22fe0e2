/-
  Part 37 of the proof: what functions return, and plain facts (Xread Xrread Xpair Xlaws Xlaws3). Conditions: each theorem names its own.
-/
import Derived.Test.YthoojcdjjecogaaGreatDoorG36
import Derived.Test.YthoojcdjjecogaaGreatDoorG35
set_option maxRecDepth 1000000
set_option maxHeartbeats 16000000
namespace Go.Proofs.YthoojcdjjecogaaGreatDoor
open Go Go.RowKit Go.Ex

def tenL : X × Bool := (.lt (.int 300) (.len (.at 2)), false)
def rdX (f : Nat) (a : V) (k : Int) : CallX := ⟨f, [a, xs 5], [(.eq (.at 1) (.int k), true), tenL], .tup [vaV 6 .nils, xi 23]⟩
def rdC : List CallX := [⟨24, [xs 2], [tenL], .tup [.junk 0, xi 3, xi 4]⟩, ⟨25, [xs 2, it 2], [(.eq (.at 4) (.int 0), true), tenL], .tup [xs 5, it 0]⟩,
 rdX 228 (.agg []) 2, rdX 229 (.agg []) 3, rdX 254 (.agg []) 7, rdX 238 (.agg [it 1]) 4, rdX 238 (.agg [it 2]) 5, rdX 238 (.agg [it 3]) 6]
def rdL (y : Tree) : Tree := .node (.lt (.int 300) (.len (.at 2))) (tZ (it 3)) (.node (.eq (.at 4) (.int 0)) y (tZ (it 6)))
def rdY : Tree := .leaf (.tup [vaV 6 .nils, xi 23])
def rdP : Tree := .leaf (.tup [vl (it 1) (xs 2) (.bool false) (.bool false) (.str []) (it 0) mo0 .nils, it 0])
def rdT : Tree := .node (.eq (.at 1) (.int 1)) (rdL rdP) (.node (.eq (.at 1) (.int 2)) (rdL rdY) (.node (.eq (.at 1) (.int 3)) (rdL rdY) (.node (.eq (.at 1) (.int 4)) (rdL rdY) (.node (.eq (.at 1) (.int 5)) (rdL rdY) (.node (.eq (.at 1) (.int 6)) (rdL rdY) (.node (.eq (.at 1) (.int 7)) (rdL rdY) (tZ (it 2))))))))
theorem run_read : chk (runTr Tryz.prog nG (fun _ => none) gd moT rdC 100 9 [xi 1, xs 2] h0) rdT [] = true := by decide +kernel
def sqS (t : ByteArray) : ByteArray := str (sqTwo (bts t))
theorem sqS_size (t : ByteArray) : (sqS t).size <= t.size := by unfold sqS; rw [str_size]; exact sqTwo_length t
def rdE (p : Int) (t : ByteArray) : List Value := [.int .i64 p, .string t, .int .i64 (decP t), .int .i64 (decI t), .string (sqS t)] ++ (Lx.readS p (sqS t)).1.list ++ [.int .i64 (Lx.readS p (sqS t)).2]
theorem rd_le {E : Nat -> Value} {t : ByteArray} (hE : E 2 = .string t) (h : X.evB E tenL.1 = tenL.2) : t.size <= 300 := by
 have h2 : decide ((300 : Int) < ((X.evS E (.at 2)).size : Int)) = false := h
 simp only [X.evS, hE] at h2
 have := of_decide_eq_false h2
 omega
theorem rdC_ok (p : Int) (t : ByteArray) (M : Int) : AllX Tryz.prog (envE (.int .i64 M :: rdE p t)) (Vars M) rdC := by
 have hE : envE (.int .i64 M :: rdE p t) 2 = .string t := rfl
 have one : ∀ (f : Nat) (a : V) (av : Value) (k : Int) (hf : ∃ fn, Tryz.prog.funcs[f]? = some fn /\ (fn.name == "runtime.NumGoroutine") = false /\ fn.body.isNone = false) (ha : ∀ L, a.den L (envE (.int .i64 M :: rdE p t)) = av),
   (∀ w, p = k -> t.size <= 300 -> Vars M w -> Calls Tryz.prog f #[av, .string (sqS t)] w fun e w' => e = .returned (tuV (Lx.readS p (sqS t))) /\ Below w.heap.size w w') -> CallX.Ok Tryz.prog (envE (.int .i64 M :: rdE p t)) (Vars M) (rdX f a k) := fun f a av k hf ha h => by
  refine ⟨rfl, hf, fun hp L w hV => ?_⟩
  have e1 : V.dens L (envE (.int .i64 M :: rdE p t)) [a, xs 5] = [av, .string (sqS t)] := by simp only [V.dens, ha]; rfl
  show Calls _ _ (V.dens L (envE (.int .i64 M :: rdE p t)) [a, xs 5]).toArray w fun q w' => q = .returned (tuV (Lx.readS p (sqS t))) /\ Below w.heap.size w w'
  rw [e1]
  exact h w (of_decide_eq_true (show decide (p = k) = true from hp.1)) (rd_le hE hp.2.1) hV
 refine ⟨pdec_ok _ (fun hp => by have := rd_le hE hp.1; omega) rfl rfl rfl, ⟨rfl, fk, fun hp L w hV => ?_⟩,
  one _ _ (.agg #[]) 2 fk (fun _ => rfl) fun w hk _ _ => ?_,
  one _ _ (.agg #[]) 3 fk (fun _ => rfl) fun w hk ht hV => ?_,
  one _ _ (.agg #[]) 7 fk (fun _ => rfl) fun w hk ht hV => ?_,
  one _ _ (.agg #[.int .i64 1]) 4 fk (fun _ => rfl) fun w hk ht hV => ?_,
  one _ _ (.agg #[.int .i64 2]) 5 fk (fun _ => rfl) fun w hk ht hV => ?_,
  one _ _ (.agg #[.int .i64 3]) 6 fk (fun _ => rfl) fun w hk ht hV => ?_, trivial⟩
 ·have h0 : decide (decI t = 0) = true := hp.1
  rw [decI_zero] at h0
  have ht := rd_le hE hp.2.1
  exact f22_2 t (by omega) w hV.rng M (by obtain ⟨lo, hi, h1, _⟩ := hV.row0; simp [World.cell?, h1]) (of_decide_eq_true h0)
 ·subst hk; exact xtruth_is (sqS t) w
 ·subst hk; have := sqS_size t; exact xnum_is (sqS t) (by omega) w M hV
 ·subst hk; have := sqS_size t; exact xhexr_is (sqS t) (by omega) w
 ·subst hk; have := sqS_size t; exact xinstant_is 1 (sqS t) (by omega) w M hV
 ·subst hk; have := sqS_size t; exact xinstant_is 2 (sqS t) (by omega) w M hV
 ·subst hk; have := sqS_size t; exact xinstant_is 3 (sqS t) (by omega) w M hV
theorem rdL_at (y : Tree) (p : Int) (t : ByteArray) (M : Int) (h : decide (300 < t.size) = false -> decide (wrongI t = -1) = true -> (y.at (envE (.int .i64 M :: rdE p t))).den L0 (envE (.int .i64 M :: rdE p t)) = tuV (Lx.readV p t)) (h1 : ¬(p < 1 \/ 7 < p)) :
  ((rdL y).at (envE (.int .i64 M :: rdE p t))).den L0 (envE (.int .i64 M :: rdE p t)) = tuV (Lx.readV p t) := by
 have e : (rdL y).at (envE (.int .i64 M :: rdE p t)) = bif decide ((300 : Int) < (t.size : Int)) then (tZ (it 3)).at (envE (.int .i64 M :: rdE p t)) else bif decide (decI t = 0) then y.at (envE (.int .i64 M :: rdE p t)) else (tZ (it 6)).at (envE (.int .i64 M :: rdE p t)) := rfl
 rw [e, decI_zero]
 by_cases h2 : 300 < t.size
 ·rw [decide_eq_true (by omega), cond_true, tZ_den (it 3) 3 _ rfl]; unfold Lx.readV; rw [if_neg h1, if_pos h2]
 ·rw [decide_eq_false (by omega), cond_false]
  by_cases h3 : wrongI t = -1
  ·rw [decide_eq_true h3, cond_true]; exact h (decide_eq_false h2) (decide_eq_true h3)
  ·rw [decide_eq_false h3, cond_false, tZ_den (it 6) 6 _ rfl]; unfold Lx.readV; rw [if_neg h1, if_neg h2, if_pos h3]
theorem xread_is (p : Int) (t : ByteArray) (w : World) (M : Int) (hV : Vars M w) : Calls Tryz.prog 9 #[.int .i64 p, .string t] w fun e w' => e = .returned (tuV (Lx.readV p t)) /\ Below w.heap.size w w' := by
 refine tree_rv (env := rdE p t) run_read (rdC_ok p t M) (by unfold rdE; rw [List.all_append, List.all_append]; rfl) trivial rfl rfl ?_ hV
 have e : rdT.at (envE (.int .i64 M :: rdE p t)) = bif decide (p = 1) then (rdL rdP).at (envE (.int .i64 M :: rdE p t)) else bif decide (p = 2) then (rdL rdY).at (envE (.int .i64 M :: rdE p t)) else bif decide (p = 3) then (rdL rdY).at (envE (.int .i64 M :: rdE p t)) else bif decide (p = 4) then (rdL rdY).at (envE (.int .i64 M :: rdE p t)) else
  bif decide (p = 5) then (rdL rdY).at (envE (.int .i64 M :: rdE p t)) else bif decide (p = 6) then (rdL rdY).at (envE (.int .i64 M :: rdE p t)) else bif decide (p = 7) then (rdL rdY).at (envE (.int .i64 M :: rdE p t)) else (tZ (it 2)).at (envE (.int .i64 M :: rdE p t)) := rfl
 rw [e]
 have yes : ∀ k, p = k -> k ≠ 1 -> 1 <= k -> k <= 7 -> ((rdL rdY).at (envE (.int .i64 M :: rdE p t))).den L0 (envE (.int .i64 M :: rdE p t)) = tuV (Lx.readV p t) := fun k hk k1 k2 k3 => by
  refine rdL_at rdY p t M (fun h2 h3 => ?_) (by omega)
  unfold Lx.readV
  rw [if_neg (by omega), if_neg (of_decide_eq_false h2), if_neg (fun h => h (of_decide_eq_true h3)), if_neg (by omega)]
  rfl
 by_cases h1 : p = 1
 ·rw [decide_eq_true h1, cond_true]
  refine rdL_at rdP p t M (fun h2 h3 => ?_) (by omega)
  unfold Lx.readV
  rw [if_neg (by omega), if_neg (of_decide_eq_false h2), if_neg (fun h => h (of_decide_eq_true h3)), if_pos h1]
  rfl
 rw [decide_eq_false h1, cond_false]
 by_cases h2 : p = 2
 ·rw [decide_eq_true h2]; exact yes 2 h2 (by decide) (by decide) (by decide)
 rw [decide_eq_false h2, cond_false]
 by_cases h3 : p = 3
 ·rw [decide_eq_true h3]; exact yes 3 h3 (by decide) (by decide) (by decide)
 rw [decide_eq_false h3, cond_false]
 by_cases h4 : p = 4
 ·rw [decide_eq_true h4]; exact yes 4 h4 (by decide) (by decide) (by decide)
 rw [decide_eq_false h4, cond_false]
 by_cases h5 : p = 5
 ·rw [decide_eq_true h5]; exact yes 5 h5 (by decide) (by decide) (by decide)
 rw [decide_eq_false h5, cond_false]
 by_cases h6 : p = 6
 ·rw [decide_eq_true h6]; exact yes 6 h6 (by decide) (by decide) (by decide)
 rw [decide_eq_false h6, cond_false]
 by_cases h7 : p = 7
 ·rw [decide_eq_true h7]; exact yes 7 h7 (by decide) (by decide) (by decide)
 rw [decide_eq_false h7, cond_false, tZ_den (it 2) 2 _ rfl]
 unfold Lx.readV
 rw [if_pos (by omega)]

def rrK : X := .sub .i64 (.add .i64 (.int 1) (.at 1)) (.int 4)
def rrC : List CallX := [⟨26, [xs 2], [tenL], .tup [.junk 0, xi 3, xi 4]⟩, ⟨27, [xs 2, it 2], [(.eq (.at 4) (.int 0), true), tenL], .tup [xs 5, it 0]⟩,
 ⟨28, [xs 5], [tenL], .tup [.agg [xb 6, xs 7, xi 8], xi 9]⟩, ⟨30, [xs 5], [tenL], .tup [xs 10, xb 11]⟩, ⟨29, [.xi .i64 rrK, xs 5], [tenL], .tup [moV 12, xi 23]⟩]
def rrTr : Tree := .node (.seq (.at 5) (.str [116, 114, 117, 101])) (.leaf (.tup [vl (it 2) (.str []) (.bool true) (.bool false) (.str []) (it 0) mo0 .nils, it 0])) (.node (.seq (.at 5) (.str [49])) (.leaf (.tup [vl (it 2) (.str []) (.bool true) (.bool false) (.str []) (it 0) mo0 .nils, it 0]))
 (.node (.seq (.at 5) (.str [102, 97, 108, 115, 101])) (.leaf (.tup [vl (it 2) (.str []) (.bool false) (.bool false) (.str []) (it 0) mo0 .nils, it 0])) (.node (.seq (.at 5) (.str [48])) (.leaf (.tup [vl (it 2) (.str []) (.bool false) (.bool false) (.str []) (it 0) mo0 .nils, it 0])) (tZ (it 6)))))
def rrNu : Tree := .node (.eq (.at 9) (.int 0)) (.leaf (.tup [vl (it 3) (.str []) (.bool false) (xb 6) (xs 7) (xi 8) mo0 .nils, it 0])) (tZ (xi 9))
def rrMo : Tree := .node (.eq (.at 23) (.int 0)) (.leaf (.tup [vl (it 4) (.str []) (.bool false) (.bool false) (.str []) (it 0) (moL 12) .nils, it 0])) (tZ (xi 23))
def rrHx : Tree := .node (.at 11) (.leaf (.tup [vl (it 5) (xs 10) (.bool false) (.bool false) (.str []) (it 0) mo0 .nils, it 0])) (tZ (it 6))
def rrB : Tree := .node (.eq (.at 1) (.int 1)) rdP (.node (.eq (.at 1) (.int 2)) rrTr (.node (.eq (.at 1) (.int 3)) rrNu (.node (.eq (.at 1) (.int 4)) rrMo (.node (.eq (.at 1) (.int 5)) rrMo (.node (.eq (.at 1) (.int 6)) rrMo (.node (.eq (.at 1) (.int 7)) rrHx (tZ (it 6))))))))
def rrT : Tree := .node (.lt (.at 1) (.int 1)) (tZ (it 2)) (.node (.lt (.int 7) (.at 1)) (tZ (it 2)) (rdL rrB))
theorem run_rread : chk (runTr Tryz.prog nG (fun _ => none) gd moT rrC 100 10 [xi 1, xs 2] h0) rrT [] = true := by decide +kernel
def kM (p : Int) : Int := IntKind.i64.wrap (IntKind.i64.wrap (1 + p) - 4)
def rrE (p : Int) (t s : ByteArray) (r : Res) (h : ByteArray) (b : Bool) (m : Mo × Int) : List Value := [.int .i64 p, .string t, .int .i64 (decP t), .int .i64 (decI t), .string s, .bool r.n, .string r.s, .int .i64 r.S, .int .i64 r.k, .string h, .bool b] ++ m.1.list ++ [.int .i64 m.2]
theorem rrTr_at (p : Int) (t s : ByteArray) (r : Res) (h : ByteArray) (b : Bool) (m : Mo × Int) (M : Int) : (rrTr.at (envE (.int .i64 M :: rrE p t s r h b m))).den L0 (envE (.int .i64 M :: rrE p t s r h b m)) = tuV (Lx.truthV s) := by
 have e : rrTr.at (envE (.int .i64 M :: rrE p t s r h b m)) = bif decide (s = Lx.strT) then .tup [vl (it 2) (.str []) (.bool true) (.bool false) (.str []) (it 0) mo0 .nils, it 0] else bif decide (s = ⟨#[49]⟩) then .tup [vl (it 2) (.str []) (.bool true) (.bool false) (.str []) (it 0) mo0 .nils, it 0] else
  bif decide (s = Lx.strF) then .tup [vl (it 2) (.str []) (.bool false) (.bool false) (.str []) (it 0) mo0 .nils, it 0] else bif decide (s = ⟨#[48]⟩) then .tup [vl (it 2) (.str []) (.bool false) (.bool false) (.str []) (it 0) mo0 .nils, it 0] else (tZ (it 6)).at (envE (.int .i64 M :: rrE p t s r h b m)) := rfl
 rw [e]
 unfold Lx.truthV
 by_cases h1 : s = Lx.strT
 ·rw [decide_eq_true h1, if_pos (.inl h1)]; rfl
 ·by_cases h2 : s = ⟨#[49]⟩
  ·rw [decide_eq_false h1, decide_eq_true h2, if_pos (.inr h2)]; rfl
  ·rw [decide_eq_false h1, decide_eq_false h2, if_neg (fun h => h.elim h1 h2)]
   by_cases h3 : s = Lx.strF
   ·rw [decide_eq_true h3, if_pos (.inl h3)]; rfl
   ·by_cases h4 : s = ⟨#[48]⟩
    ·rw [decide_eq_false h3, decide_eq_true h4, if_pos (.inr h4)]; rfl
    ·rw [decide_eq_false h3, decide_eq_false h4, if_neg (fun h => h.elim h3 h4)]; rfl
theorem rrNu_at (p : Int) (t s : ByteArray) (r : Res) (h : ByteArray) (b : Bool) (m : Mo × Int) (M : Int) : (rrNu.at (envE (.int .i64 M :: rrE p t s r h b m))).den L0 (envE (.int .i64 M :: rrE p t s r h b m)) = tuV (Lx.numV r) := by
 have e : rrNu.at (envE (.int .i64 M :: rrE p t s r h b m)) = bif decide (r.k = 0) then .tup [vl (it 3) (.str []) (.bool false) (xb 6) (xs 7) (xi 8) mo0 .nils, it 0] else (tZ (xi 9)).at (envE (.int .i64 M :: rrE p t s r h b m)) := rfl
 rw [e]
 unfold Lx.numV
 by_cases h1 : r.k = 0
 ·rw [decide_eq_true h1, if_pos h1]; rfl
 ·rw [decide_eq_false h1, if_neg h1, cond_false]; exact tZ_den (xi 9) r.k _ rfl
theorem rrMo_at (p : Int) (t s : ByteArray) (r : Res) (h : ByteArray) (b : Bool) (m : Mo × Int) (M : Int) : (rrMo.at (envE (.int .i64 M :: rrE p t s r h b m))).den L0 (envE (.int .i64 M :: rrE p t s r h b m)) = tuV (Lx.momV m) := by
 have e : rrMo.at (envE (.int .i64 M :: rrE p t s r h b m)) = bif decide (m.2 = 0) then .tup [vl (it 4) (.str []) (.bool false) (.bool false) (.str []) (it 0) (moL 12) .nils, it 0] else (tZ (xi 23)).at (envE (.int .i64 M :: rrE p t s r h b m)) := rfl
 rw [e]
 unfold Lx.momV
 by_cases h1 : m.2 = 0
 ·rw [decide_eq_true h1, if_pos h1]; rfl
 ·rw [decide_eq_false h1, if_neg h1, cond_false]; exact tZ_den (xi 23) m.2 _ rfl
theorem rrHx_at (p : Int) (t s : ByteArray) (r : Res) (h : ByteArray) (b : Bool) (m : Mo × Int) (M : Int) (hh : hexW (bts s) = .tuple #[.string h, .bool b]) : (rrHx.at (envE (.int .i64 M :: rrE p t s r h b m))).den L0 (envE (.int .i64 M :: rrE p t s r h b m)) = tuV (Lx.hexV (bts s)) := by
 have e : rrHx.at (envE (.int .i64 M :: rrE p t s r h b m)) = bif b then .tup [vl (it 5) (xs 10) (.bool false) (.bool false) (.str []) (it 0) mo0 .nils, it 0] else (tZ (it 6)).at (envE (.int .i64 M :: rrE p t s r h b m)) := rfl
 rw [e]
 unfold Lx.hexV
 cases ho : Lx.hexL (bts s) with
 | none =>
  rw [hexW_none ho] at hh
  injection hh with hh
  injection hh with hh
  injection hh with h1 h2
  injection h2 with h2
  injection h2 with h2
  rw [<- h2]; rfl
 | some o =>
  rw [hexW_some ho] at hh
  injection hh with hh
  injection hh with hh
  injection hh with h1 h2
  injection h1 with h1
  injection h2 with h2
  injection h2 with h2
  rw [<- h2, <- h1]; rfl
theorem kM_4 : kM 4 = 1 := by decide
theorem kM_5 : kM 5 = 2 := by decide
theorem kM_6 : kM 6 = 3 := by decide
theorem rrB_at (p : Int) (t s : ByteArray) (h : ByteArray) (b : Bool) (M : Int) (hh : hexW (bts s) = .tuple #[.string h, .bool b]) (h1 : p ≠ 1) (h0 : 1 <= p) (h9 : p <= 7) :
  (rrB.at (envE (.int .i64 M :: rrE p t s (readR (bts s)) h b (Mo.readM (kM p) (bts s))))).den L0 (envE (.int .i64 M :: rrE p t s (readR (bts s)) h b (Mo.readM (kM p) (bts s)))) = tuV (Lx.readS p s) := by
 obtain ⟨E, hE⟩ : ∃ E, envE (.int .i64 M :: rrE p t s (readR (bts s)) h b (Mo.readM (kM p) (bts s))) = E := ⟨_, rfl⟩
 have e : rrB.at E = bif decide (p = 1) then rdP.at E else bif decide (p = 2) then rrTr.at E else bif decide (p = 3) then rrNu.at E else bif decide (p = 4) then rrMo.at E else bif decide (p = 5) then rrMo.at E else bif decide (p = 6) then rrMo.at E else bif decide (p = 7) then rrHx.at E else (tZ (it 6)).at E := by rw [<- hE]; rfl
 have a2 := rrTr_at p t s (readR (bts s)) h b (Mo.readM (kM p) (bts s)) M
 have a3 := rrNu_at p t s (readR (bts s)) h b (Mo.readM (kM p) (bts s)) M
 have a4 := rrMo_at p t s (readR (bts s)) h b (Mo.readM (kM p) (bts s)) M
 have a7 := rrHx_at p t s (readR (bts s)) h b (Mo.readM (kM p) (bts s)) M hh
 rw [hE] at a2 a3 a4 a7 ⊢
 clear hE
 rw [e, decide_eq_false h1, cond_false]
 unfold Lx.readS
 by_cases h2 : p = 2
 ·rw [decide_eq_true h2, if_pos h2]; exact a2
 rw [decide_eq_false h2, if_neg h2, cond_false]
 by_cases h3 : p = 3
 ·rw [decide_eq_true h3, if_pos h3]; exact a3
 rw [decide_eq_false h3, if_neg h3, cond_false]
 by_cases h7 : p = 7
 ·rw [if_pos h7, decide_eq_false (by omega), decide_eq_false (by omega), decide_eq_false (by omega), decide_eq_true h7]; exact a7
 rw [if_neg h7]
 by_cases h4 : p = 4
 ·subst h4; rw [kM_4] at a4; exact a4
 by_cases h5 : p = 5
 ·subst h5; rw [kM_5] at a4; exact a4
 by_cases h6 : p = 6
 ·subst h6; rw [kM_6] at a4; exact a4
 omega
theorem hex_parts (l : List Nat) : ∃ h b, hexW l = .tuple #[.string h, .bool b] := by
 cases ho : Lx.hexL l with
 | none => exact ⟨_, _, hexW_none ho⟩
 | some o => exact ⟨_, _, hexW_some ho⟩
theorem xrread_is (p : Int) (t : ByteArray) (w : World) (M : Int) (hV : Vars M w) : Calls Tryz.prog 10 #[.int .i64 p, .string t] w fun e w' => e = .returned (tuV (Lx.readV p t)) /\ Below w.heap.size w w' := by
 obtain ⟨h, b, hh⟩ := hex_parts (bts (sqS t))
 obtain ⟨r, hr⟩ : ∃ r, readR (bts (sqS t)) = r := ⟨_, rfl⟩
 obtain ⟨m, hm⟩ : ∃ m, Mo.readM (kM p) (bts (sqS t)) = m := ⟨_, rfl⟩
 have hE : envE (.int .i64 M :: rrE p t (sqS t) r h b m) 2 = .string t := rfl
 have c2 : CallX.Ok Tryz.prog (envE (.int .i64 M :: rrE p t (sqS t) r h b m)) (Vars M) ⟨27, [xs 2, it 2], [(.eq (.at 4) (.int 0), true), tenL], .tup [xs 5, it 0]⟩ := ⟨rfl, fk, fun hp L w hV => by
  have h0 : decide (decI t = 0) = true := hp.1
  rw [decI_zero] at h0
  have ht := rd_le hE hp.2.1
  exact f23_2 t (by omega) w (of_decide_eq_true h0)⟩
 have c3 : CallX.Ok Tryz.prog (envE (.int .i64 M :: rrE p t (sqS t) r h b m)) (Vars M) ⟨28, [xs 5], [tenL], .tup [.agg [xb 6, xs 7, xi 8], xi 9]⟩ := ⟨rfl, fk, fun hp L w hV => by
  have ht := rd_le hE hp.1
  have hz := sqS_size t
  have q := xnumber_is (sqS t) (by omega) w
  rw [hr] at q
  exact q⟩
 have c4 : CallX.Ok Tryz.prog (envE (.int .i64 M :: rrE p t (sqS t) r h b m)) (Vars M) ⟨30, [xs 5], [tenL], .tup [xs 10, xb 11]⟩ := ⟨rfl, fk, fun hp L w hV => by
  have ht := rd_le hE hp.1
  have hz := sqS_size t
  have q := xbytes_is (sqS t) (by omega) w
  rw [hh] at q
  exact q⟩
 have c5 : CallX.Ok Tryz.prog (envE (.int .i64 M :: rrE p t (sqS t) r h b m)) (Vars M) ⟨29, [.xi .i64 rrK, xs 5], [tenL], .tup [moV 12, xi 23]⟩ := ⟨rfl, fk, fun hp L w hV => by
  have ht := rd_le hE hp.1
  have hz := sqS_size t
  have q := rread_m (kM p) (sqS t) (by omega) w M hV
  rw [hm] at q
  exact q⟩
 have a3 : (rrT.at (envE (.int .i64 M :: rrE p t (sqS t) r h b m))).den L0 (envE (.int .i64 M :: rrE p t (sqS t) r h b m)) = tuV (Lx.readV p t) := by
  have aB : p ≠ 1 -> 1 <= p -> p <= 7 -> (rrB.at (envE (.int .i64 M :: rrE p t (sqS t) r h b m))).den L0 (envE (.int .i64 M :: rrE p t (sqS t) r h b m)) = tuV (Lx.readS p (sqS t)) := fun h1 h2 h3 => by
   have q := rrB_at p t (sqS t) h b M hh h1 h2 h3
   rw [hr, hm] at q
   exact q
  have aP : p = 1 -> (rrB.at (envE (.int .i64 M :: rrE p t (sqS t) r h b m))).den L0 (envE (.int .i64 M :: rrE p t (sqS t) r h b m)) = tuV (⟨1, t, false, false, ⟨#[]⟩, 0, Mo.nil⟩, 0) := fun h1 => by subst h1; rfl
  obtain ⟨E, hE⟩ : ∃ E, envE (.int .i64 M :: rrE p t (sqS t) r h b m) = E := ⟨_, rfl⟩
  have e : rrT.at E = bif decide (p < 1) then (tZ (it 2)).at E else bif decide (7 < p) then (tZ (it 2)).at E else bif decide ((300 : Int) < (t.size : Int)) then (tZ (it 3)).at E else bif decide (decI t = 0) then rrB.at E else (tZ (it 6)).at E := by rw [<- hE]; rfl
  rw [hE] at aB aP ⊢
  clear hE
  rw [e, decI_zero]
  unfold Lx.readV
  by_cases h1 : p < 1
  ·rw [decide_eq_true h1, if_pos (.inl h1), cond_true, tZ_den (it 2) 2 _ rfl]
  by_cases h2 : 7 < p
  ·rw [decide_eq_false h1, decide_eq_true h2, if_pos (.inr h2), cond_false, cond_true, tZ_den (it 2) 2 _ rfl]
  rw [decide_eq_false h1, decide_eq_false h2, if_neg (fun h => h.elim h1 h2), cond_false, cond_false]
  by_cases h3 : 300 < t.size
  ·rw [decide_eq_true (by omega), if_pos h3, cond_true, tZ_den (it 3) 3 _ rfl]
  rw [decide_eq_false (by omega), if_neg h3, cond_false]
  by_cases h4 : wrongI t = -1
  ·rw [decide_eq_true h4, if_neg (fun h => h h4), cond_true]
   by_cases h5 : p = 1
   ·rw [if_pos h5]; exact aP h5
   ·rw [if_neg h5]; exact aB h5 (by omega) (by omega)
  ·rw [decide_eq_false h4, if_pos h4, cond_false, tZ_den (it 6) 6 _ rfl]
 exact tree_rv run_rread ⟨rdec_ok _ (fun hp => by have := rd_le hE hp.1; omega) rfl rfl rfl, c2, c3, c4, c5, trivial⟩ (by unfold rrE; rw [List.all_append, List.all_append]; rfl) trivial rfl rfl a3 hV
end Go.Proofs.YthoojcdjjecogaaGreatDoor
namespace Go.Proofs.YthoojcdjjecogaaGreatDoor
open Go Go.RowKit Go.Ex
namespace Lx
end Lx
def chI (b : Bool) : Int := bif b then 0 else 2
theorem chI_zero (b : Bool) : decide (chI b = 0) = b := by cases b <;> rfl
end Go.Proofs.YthoojcdjjecogaaGreatDoor
namespace Go.Proofs.YthoojcdjjecogaaGreatDoor
open Go Go.RowKit Go.Ex
theorem run_text9 : chk (runTr Tryz.prog nG (fun _ => none) gd moT [⟨17, [vaV 1 .nils], [], xi 18⟩, ⟨31, [vaV 1 .nils], [], xs 19⟩] 100 13 [vaV 1 .nils] h0) (.node (.eq (.at 18) (.int 0)) (.leaf (.tup [xs 19, it 0])) (.leaf (.tup [.str [], it 2]))) [] = true := by decide +kernel
theorem xck_of (v : Vl) (hv : v.Sz) (h6 : v.k ≠ 6) (M : Int) {o : Bool} (ho : Lx.okV v 0 false = o) (w : World) (hV : Vars M w) : Calls Tryz.prog 17 #[v.val nilL] w fun e w' => e = .returned (.int .i64 (chI o)) /\ Below w.heap.size w w' := by
 rw [<- ho]; exact xcheck_is v hv nilL 0 nilL_slice false w M (listOk_no h6) hV
theorem xtextf_is (v : Vl) (hv : v.Sz) (t : ByteArray) (ht : ∀ w M, Vars M w -> Calls Tryz.prog 31 #[v.val nilL] w fun e w' => e = .returned (.string t) /\ Below w.heap.size w w') (hk : v.k ≠ 6) (w : World) (M : Int) (hV : Vars M w) :
  Calls Tryz.prog 13 #[v.val nilL] w fun e w' => e = .returned (bif Lx.okV v 0 false then .tuple #[.string t, .int .i64 0] else .tuple #[.string ⟨#[]⟩, .int .i64 2]) /\ Below w.heap.size w w' := by
 obtain ⟨o, ho⟩ : ∃ o, Lx.okV v 0 false = o := ⟨_, rfl⟩
 have hck := xck_of v hv hk M ho
 rw [ho]
 clear ho
 have h1 : (v.list ++ [Value.int .i64 (chI o), Value.string t]).all Value.oneCell' = true := rfl
 have h2 : (V.dens L0 (envE (.int .i64 M :: (v.list ++ [.int .i64 (chI o), .string t]))) [vaV 1 .nils]).toArray = #[v.val nilL] := rfl
 have h3 : (Tree.at (envE (.int .i64 M :: (v.list ++ [.int .i64 (chI o), .string t]))) (.node (.eq (.at 18) (.int 0)) (.leaf (.tup [xs 19, it 0])) (.leaf (.tup [.str [], it 2])))).den L0 (envE (.int .i64 M :: (v.list ++ [.int .i64 (chI o), .string t]))) = bif o then Value.tuple #[.string t, .int .i64 0] else .tuple #[.string ⟨#[]⟩, .int .i64 2] := by
  show (bif decide (chI o = 0) then V.tup [xs 19, it 0] else V.tup [.str [], it 2]).den L0 _ = _
  rw [chI_zero]
  cases o <;> rfl
 have h4 : AllX Tryz.prog (envE (.int .i64 M :: (v.list ++ [.int .i64 (chI o), .string t]))) (Vars M) [⟨17, [vaV 1 .nils], [], xi 18⟩, ⟨31, [vaV 1 .nils], [], xs 19⟩] := ⟨⟨rfl, fk, fun _ L w hV => hck w hV⟩, ⟨rfl, fk, fun _ L w hV => ht w M hV⟩, trivial⟩
 exact tree_rv run_text9 h4 h1 trivial rfl h2 h3 hV
def leT : Tree := .node (.eq (.at 18) (.int 0)) (.node (.eq (.at 1) (.int 5)) (.leaf (.tup [.xi .i64 (.len (.at 2)), it 0])) (.leaf (.tup [it 0, it 2]))) (.leaf (.tup [it 0, it 2]))
theorem run_len9 : chk (runTr Tryz.prog nG (fun _ => none) gd moT [⟨17, [vaV 1 .nils], [], xi 18⟩] 100 15 [vaV 1 .nils] h0) leT [(.eq (.at 1) (.int 1), false), (.eq (.at 1) (.int 6), false)] = true := by decide +kernel
theorem xlength_is (v : Vl) (hv : v.Sz) (h1 : v.k ≠ 1) (h6 : v.k ≠ 6) (w : World) (M : Int) (hV : Vars M w) : Calls Tryz.prog 15 #[v.val nilL] w fun e w' => e = .returned (bif Lx.okV v 0 false && decide (v.k = 5) then .tuple #[.int .i64 v.t.size, .int .i64 0] else .tuple #[.int .i64 0, .int .i64 2]) /\ Below w.heap.size w w' := by
 obtain ⟨o, ho⟩ : ∃ o, Lx.okV v 0 false = o := ⟨_, rfl⟩
 have hck := xck_of v hv h6 M ho
 rw [ho]
 clear ho
 have a1 : (v.list ++ [Value.int .i64 (chI o)]).all Value.oneCell' = true := rfl
 have a2 : (V.dens L0 (envE (.int .i64 M :: (v.list ++ [.int .i64 (chI o)]))) [vaV 1 .nils]).toArray = #[v.val nilL] := rfl
 have a3 : (leT.at (envE (.int .i64 M :: (v.list ++ [.int .i64 (chI o)])))).den L0 (envE (.int .i64 M :: (v.list ++ [.int .i64 (chI o)]))) = bif o && decide (v.k = 5) then Value.tuple #[.int .i64 v.t.size, .int .i64 0] else .tuple #[.int .i64 0, .int .i64 2] := by
  show (bif decide (chI o = 0) then bif decide (v.k = 5) then V.tup [.xi .i64 (.len (.at 2)), it 0] else V.tup [it 0, it 2] else V.tup [it 0, it 2]).den L0 _ = _
  rw [chI_zero]
  cases o <;> cases decide (v.k = 5) <;> rfl
 have a4 : AllX Tryz.prog (envE (.int .i64 M :: (v.list ++ [.int .i64 (chI o)]))) (Vars M) [⟨17, [vaV 1 .nils], [], xi 18⟩] := ⟨⟨rfl, fk, fun _ L w hV => hck w hV⟩, trivial⟩
 have a5 : Fx.Ok (envE (.int .i64 M :: (v.list ++ [.int .i64 (chI o)]))) [(.eq (.at 1) (.int 1), false), (.eq (.at 1) (.int 6), false)] := ⟨decide_eq_false h1, decide_eq_false h6, trivial⟩
 exact tree_rv run_len9 a4 a1 a5 rfl a2 a3 hV
def sA : ByteArray := ⟨#[32, 43, 48, 48, 55, 46, 53, 48, 32]⟩
def vA : Vl := ⟨3, ⟨#[]⟩, false, false, ⟨#[55, 53]⟩, 1, Mo.nil⟩
def vB : Vl := ⟨5, ⟨#[10, 255]⟩, false, false, ⟨#[]⟩, 0, Mo.nil⟩
def vC : Vl := ⟨2, ⟨#[]⟩, true, false, ⟨#[]⟩, 0, Mo.nil⟩
theorem read_A : Lx.readV 3 sA = (vA, 0) := by kernel_rfl
theorem read_dot : Lx.readV 3 ⟨#[46]⟩ = (Lx.zero, 6) := by kernel_rfl
theorem read_B : Lx.readV 7 ⟨#[48, 97, 102, 102]⟩ = (vB, 0) := by kernel_rfl
theorem read_C : Lx.readV 2 ⟨#[49]⟩ = (vC, 0) := by kernel_rfl
theorem ok_A : Lx.okV vA 0 false = true := by kernel_rfl
theorem ok_B : Lx.okV vB 0 false = true := by kernel_rfl
theorem ok_Z : Lx.okV Lx.zero 0 false = false := by kernel_rfl
def zv : V := vl (it 0) (.str []) (.bool false) (.bool false) (.str []) (it 0) mo0 .nils
def shA : V := vl (it 3) (.str []) (.bool false) (.bool false) (.str [55, 53]) (it 1) mo0 .nils
def shB : V := vl (it 5) (.str [10, 255]) (.bool false) (.bool false) (.str []) (it 0) mo0 .nils
def shC : V := vl (it 2) (.str []) (.bool true) (.bool false) (.str []) (it 0) mo0 .nils
def shX : List CallX := [⟨9, [it 3, .str [32, 43, 48, 48, 55, 46, 53, 48, 32]], [], .tup [shA, it 0]⟩, ⟨9, [it 3, .str [46]], [], .tup [zv, it 6]⟩, ⟨9, [it 7, .str [48, 97, 102, 102]], [], .tup [shB, it 0]⟩, ⟨13, [shB], [], .tup [.str [48, 65, 70, 70], it 0]⟩, ⟨15, [shB], [], .tup [it 2, it 0]⟩, ⟨9, [it 2, .str [49]], [], .tup [shC, it 0]⟩, ⟨17, [shA], [], it 0⟩, ⟨17, [zv], [], it 2⟩]
theorem run_shown9 : chk (runTr Tryz.prog nG (fun _ => none) gd moT shX 100 8 [] h0) yesT [] = true := by decide +kernel
theorem small_sz (v : Vl) (h1 : v.t.size <= 100000 := by decide) (h2 : v.s.size <= 1000000 := by decide) (h3 : v.m.s.size <= 1000000 := by decide) : v.Sz := ⟨h1, h2, h3⟩
theorem xshown_is (w : World) (M : Int) (hV : Vars M w) : Calls Tryz.prog 8 #[] w fun e w' => e = .returned (.bool true) /\ Below w.heap.size w w' := by
 have rd : ∀ (p : Int) (t : ByteArray) (r : Vl × Int) (h : Lx.readV p t = r) (w : World) (hV : Vars M w), Calls Tryz.prog 9 #[.int .i64 p, .string t] w fun e w' => e = .returned (tuV r) /\ Below w.heap.size w w' := fun p t r h w hV => by rw [<- h]; exact xread_is p t w M hV
 refine tree_rv (env := []) run_shown9 ⟨⟨rfl, fk, fun _ L w hV => rd 3 sA _ read_A w hV⟩, ⟨rfl, fk, fun _ L w hV => rd 3 _ _ read_dot w hV⟩, ⟨rfl, fk, fun _ L w hV => rd 7 _ _ read_B w hV⟩,
  ⟨rfl, fk, fun _ L w hV => ?_⟩, ⟨rfl, fk, fun _ L w hV => ?_⟩, ⟨rfl, fk, fun _ L w hV => rd 2 _ _ read_C w hV⟩,
  ⟨rfl, fk, fun _ L w hV => ?_⟩, ⟨rfl, fk, fun _ L w hV => ?_⟩, trivial⟩ rfl trivial rfl rfl rfl hV
 ·have h := xtextf_is vB (small_sz vB) (str (Lx.hexT (bts vB.t))) (fun w M _ => xtext5_is vB.t (by decide) false false ⟨#[]⟩ 0 Mo.nil nilL w) (by decide) w M hV
  rw [ok_B] at h
  exact h
 ·have h := xlength_is vB (small_sz vB) (by decide) (by decide) w M hV
  rw [ok_B] at h
  exact h
 ·have h := xcheck_is vA (small_sz vA) nilL 0 nilL_slice false w M (listOk_no (by decide)) hV
  rw [ok_A] at h
  exact h
 ·have h := xcheck_is Lx.zero (small_sz Lx.zero) nilL 0 nilL_slice false w M (listOk_no (by decide)) hV
  rw [ok_Z] at h
  exact h
theorem k3 {k : Int} (h : (3 : Int) ≠ k := by decide) : ¬(3 : Int) = k := h

theorem run_sameV : chk (runTr Tryz.prog nG (fun _ => none) gd moT [] 100 11 [vaV 1 .nils, vaV 1 .nils] h0) yesT [] = true := by decide +kernel
theorem samev_is (v : Vl) (w : World) (M : Int) (hV : Vars M w) : Calls Tryz.prog 11 #[v.val nilL, v.val nilL] w fun e w' => e = .returned (.bool true) /\ Below w.heap.size w w' :=
 tree_rv (env := v.list) run_sameV trivial rfl trivial rfl rfl rfl hV
def rsC : List CallX := [⟨8, [], [], .bool true⟩, ⟨9, [xi 1, xs 2], [], .tup [vaV 11 .nils, xi 3]⟩, ⟨10, [xi 1, xs 2], [], .tup [vaV 11 .nils, xi 3]⟩, ⟨11, [vaV 11 .nils, vaV 11 .nils], [], .bool true⟩]
theorem run_reads9 : chk (runTr Tryz.prog nG (fun _ => none) gd moT rsC 100 3 [xi 1, xs 2] h0) yesT [] = true := by decide +kernel
def rsE (p : Int) (t : ByteArray) (x : Vl) (e : Int) : List Value := [.int .i64 p, .string t, .int .i64 e, .bool false, .bool false, .bool false, .bool false, .bool false, .bool false, .bool false] ++ x.list
theorem reads_core (p : Int) (t : ByteArray) (x : Vl) (e : Int) (M : Int) (h1 : ∀ w, Vars M w -> Calls Tryz.prog 9 #[.int .i64 p, .string t] w fun r w' => r = .returned (.tuple #[x.val nilL, .int .i64 e]) /\ Below w.heap.size w w')
  (h2 : ∀ w, Vars M w -> Calls Tryz.prog 10 #[.int .i64 p, .string t] w fun r w' => r = .returned (.tuple #[x.val nilL, .int .i64 e]) /\ Below w.heap.size w w') (w : World) (hV : Vars M w) :
  Calls Tryz.prog 3 #[.int .i64 p, .string t] w fun e w' => e = .returned (.bool true) /\ Below w.heap.size w w' := by
 have a1 : (rsE p t x e).all Value.oneCell' = true := rfl
 have a2 : (V.dens L0 (envE (.int .i64 M :: rsE p t x e)) [xi 1, xs 2]).toArray = #[.int .i64 p, .string t] := rfl
 have a3 : (yesT.at (envE (.int .i64 M :: rsE p t x e))).den L0 (envE (.int .i64 M :: rsE p t x e)) = .bool true := rfl
 have c1 : CallX.Ok Tryz.prog (envE (.int .i64 M :: rsE p t x e)) (Vars M) ⟨8, [], [], .bool true⟩ := ⟨rfl, fk, fun _ L w hV => xshown_is w M hV⟩
 have c2 : CallX.Ok Tryz.prog (envE (.int .i64 M :: rsE p t x e)) (Vars M) ⟨9, [xi 1, xs 2], [], .tup [vaV 11 .nils, xi 3]⟩ := ⟨rfl, fk, fun _ L w hV => h1 w hV⟩
 have c3 : CallX.Ok Tryz.prog (envE (.int .i64 M :: rsE p t x e)) (Vars M) ⟨10, [xi 1, xs 2], [], .tup [vaV 11 .nils, xi 3]⟩ := ⟨rfl, fk, fun _ L w hV => h2 w hV⟩
 have c4 : CallX.Ok Tryz.prog (envE (.int .i64 M :: rsE p t x e)) (Vars M) ⟨11, [vaV 11 .nils, vaV 11 .nils], [], .bool true⟩ := ⟨rfl, fk, fun _ L w hV => samev_is x w M hV⟩
 exact tree_rv run_reads9 ⟨c1, c2, c3, c4, trivial⟩ a1 trivial rfl a2 a3 hV
theorem xreads_is (p : Int) (t : ByteArray) (w : World) (M : Int) (hV : Vars M w) : Calls Tryz.prog 3 #[.int .i64 p, .string t] w fun e w' => e = .returned (.bool true) /\ Below w.heap.size w w' :=
 reads_core p t _ _ M (fun w hV => xread_is p t w M hV) (fun w hV => xrread_is p t w M hV) w hV
end Go.Proofs.YthoojcdjjecogaaGreatDoor
