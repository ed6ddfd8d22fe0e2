/-
  Part 16 of the proof: what functions return, and plain facts (Mvalid). Conditions: each theorem names its own.
-/
import Derived.Test.YthoojcdjjecogaaGreatDoorG13
import Derived.Test.YthoojcdjjecogaaGreatDoorG14
import Derived.Test.YthoojcdjjecogaaGreatDoorG15
set_option maxRecDepth 1000000
set_option maxHeartbeats 16000000
namespace Go.Proofs.YthoojcdjjecogaaGreatDoor
open Go Go.RowKit Go.Ex

def trValid0 : Tree := (.leaf (.bool false))
def trValid1 : Tree := (.node (.lt (.at 11) (.int (-840))) (.leaf (.bool false)) (.node (.lt (.int 840) (.at 11)) (.leaf (.bool false)) (.node (.at 10) (.node (.eq (.at 2) (.int 0)) (.leaf (.bool false)) (.node (.lt (.at 2) (.int (-9999))) (.leaf (.bool false)) (.node (.lt (.int 9999) (.at 2)) (.leaf (.bool false)) (.node (.lt (.at 3) (.int 1)) (.leaf (.bool false)) (.node (.lt (.int 12) (.at 3)) (.leaf (.bool false)) (.node (.lt (.at 4) (.int 1)) (.leaf (.bool false)) (.node (.lt (.at 14) (.at 4)) (.leaf (.bool false)) (.node (.eq (.at 5) (.int 0)) (.node (.eq (.at 6) (.int 0)) (.node (.beq (.at 7) (.tt false)) (.node (.seq (.at 8) (.str [])) (.node (.eq (.at 9) (.int 0)) (.leaf (.bool true)) (.leaf (.bool false))) (.leaf (.bool false))) (.leaf (.bool false))) (.leaf (.bool false))) (.leaf (.bool false)))))))))) (.node (.eq (.at 11) (.int 0)) (.node (.eq (.at 2) (.int 0)) (.leaf (.bool false)) (.node (.lt (.at 2) (.int (-9999))) (.leaf (.bool false)) (.node (.lt (.int 9999) (.at 2)) (.leaf (.bool false)) (.node (.lt (.at 3) (.int 1)) (.leaf (.bool false)) (.node (.lt (.int 12) (.at 3)) (.leaf (.bool false)) (.node (.lt (.at 4) (.int 1)) (.leaf (.bool false)) (.node (.lt (.at 14) (.at 4)) (.leaf (.bool false)) (.node (.eq (.at 5) (.int 0)) (.node (.eq (.at 6) (.int 0)) (.node (.beq (.at 7) (.tt false)) (.node (.seq (.at 8) (.str [])) (.node (.eq (.at 9) (.int 0)) (.leaf (.bool true)) (.leaf (.bool false))) (.leaf (.bool false))) (.leaf (.bool false))) (.leaf (.bool false))) (.leaf (.bool false)))))))))) (.leaf (.bool false))))))
def trValid2 : Tree := (.node (.lt (.at 11) (.int (-840))) (.leaf (.bool false)) (.node (.lt (.int 840) (.at 11)) (.leaf (.bool false)) (.node (.at 10) (.node (.eq (.at 13) (.int 0)) (.node (.lt (.at 12) (.int 0)) (.node (.at 7) (.leaf (.bool false)) (.node (.lt (.at 5) (.int 0)) (.leaf (.bool false)) (.node (.lt (.int 23) (.at 5)) (.leaf (.bool false)) (.node (.lt (.at 6) (.int 0)) (.leaf (.bool false)) (.node (.lt (.int 59) (.at 6)) (.leaf (.bool false)) (.node (.eq (.at 2) (.int 0)) (.node (.eq (.at 3) (.int 0)) (.node (.eq (.at 4) (.int 0)) (.leaf (.bool true)) (.leaf (.bool false))) (.leaf (.bool false))) (.leaf (.bool false)))))))) (.leaf (.bool false))) (.leaf (.bool false))) (.node (.eq (.at 11) (.int 0)) (.node (.eq (.at 13) (.int 0)) (.node (.lt (.at 12) (.int 0)) (.node (.at 7) (.leaf (.bool false)) (.node (.lt (.at 5) (.int 0)) (.leaf (.bool false)) (.node (.lt (.int 23) (.at 5)) (.leaf (.bool false)) (.node (.lt (.at 6) (.int 0)) (.leaf (.bool false)) (.node (.lt (.int 59) (.at 6)) (.leaf (.bool false)) (.node (.eq (.at 2) (.int 0)) (.node (.eq (.at 3) (.int 0)) (.node (.eq (.at 4) (.int 0)) (.leaf (.bool true)) (.leaf (.bool false))) (.leaf (.bool false))) (.leaf (.bool false)))))))) (.leaf (.bool false))) (.leaf (.bool false))) (.leaf (.bool false))))))
def trValid3 : Tree := (.node (.lt (.at 11) (.int (-840))) (.leaf (.bool false)) (.node (.lt (.int 840) (.at 11)) (.leaf (.bool false)) (.node (.at 10) (.node (.eq (.at 2) (.int 0)) (.leaf (.bool false)) (.node (.lt (.at 2) (.int (-9999))) (.leaf (.bool false)) (.node (.lt (.int 9999) (.at 2)) (.leaf (.bool false)) (.node (.lt (.at 3) (.int 1)) (.leaf (.bool false)) (.node (.lt (.int 12) (.at 3)) (.leaf (.bool false)) (.node (.lt (.at 4) (.int 1)) (.leaf (.bool false)) (.node (.lt (.at 14) (.at 4)) (.leaf (.bool false)) (.node (.eq (.at 13) (.int 0)) (.node (.lt (.at 12) (.int 0)) (.node (.at 7) (.leaf (.bool false)) (.node (.lt (.at 5) (.int 0)) (.leaf (.bool false)) (.node (.lt (.int 23) (.at 5)) (.leaf (.bool false)) (.node (.lt (.at 6) (.int 0)) (.leaf (.bool false)) (.node (.lt (.int 59) (.at 6)) (.leaf (.bool false)) (.leaf (.bool true))))))) (.leaf (.bool false))) (.leaf (.bool false)))))))))) (.node (.eq (.at 11) (.int 0)) (.node (.eq (.at 2) (.int 0)) (.leaf (.bool false)) (.node (.lt (.at 2) (.int (-9999))) (.leaf (.bool false)) (.node (.lt (.int 9999) (.at 2)) (.leaf (.bool false)) (.node (.lt (.at 3) (.int 1)) (.leaf (.bool false)) (.node (.lt (.int 12) (.at 3)) (.leaf (.bool false)) (.node (.lt (.at 4) (.int 1)) (.leaf (.bool false)) (.node (.lt (.at 14) (.at 4)) (.leaf (.bool false)) (.node (.eq (.at 13) (.int 0)) (.node (.lt (.at 12) (.int 0)) (.node (.at 7) (.leaf (.bool false)) (.node (.lt (.at 5) (.int 0)) (.leaf (.bool false)) (.node (.lt (.int 23) (.at 5)) (.leaf (.bool false)) (.node (.lt (.at 6) (.int 0)) (.leaf (.bool false)) (.node (.lt (.int 59) (.at 6)) (.leaf (.bool false)) (.leaf (.bool true))))))) (.leaf (.bool false))) (.leaf (.bool false)))))))))) (.leaf (.bool false))))))
def trRcheck0 : Tree := (.leaf (.int .i64 2))
def trRcheck1 : Tree := (.node (.lt (.at 2) (.int (-9999))) (.leaf (.int .i64 2)) (.node (.lt (.int 9999) (.at 2)) (.leaf (.int .i64 2)) (.node (.eq (.at 2) (.int 0)) (.leaf (.int .i64 2)) (.node (.lt (.at 3) (.int 1)) (.leaf (.int .i64 2)) (.node (.lt (.int 12) (.at 3)) (.leaf (.int .i64 2)) (.node (.lt (.at 4) (.int 1)) (.leaf (.int .i64 2)) (.node (.lt (.at 14) (.at 4)) (.leaf (.int .i64 2)) (.node (.eq (.at 5) (.int 0)) (.node (.eq (.at 6) (.int 0)) (.node (.beq (.at 7) (.tt false)) (.node (.seq (.at 8) (.str [])) (.node (.eq (.at 9) (.int 0)) (.node (.lt (.at 11) (.int (-840))) (.leaf (.int .i64 2)) (.node (.lt (.int 840) (.at 11)) (.leaf (.int .i64 2)) (.node (.at 10) (.leaf (.int .i64 0)) (.node (.eq (.at 11) (.int 0)) (.leaf (.int .i64 0)) (.leaf (.int .i64 2)))))) (.leaf (.int .i64 2))) (.leaf (.int .i64 2))) (.leaf (.int .i64 2))) (.leaf (.int .i64 2))) (.leaf (.int .i64 2))))))))))
def trRcheck2 : Tree := (.node (.eq (.at 2) (.int 0)) (.node (.eq (.at 3) (.int 0)) (.node (.eq (.at 4) (.int 0)) (.node (.lt (.at 5) (.int 0)) (.leaf (.int .i64 2)) (.node (.lt (.int 23) (.at 5)) (.leaf (.int .i64 2)) (.node (.lt (.at 6) (.int 0)) (.leaf (.int .i64 2)) (.node (.lt (.int 59) (.at 6)) (.leaf (.int .i64 2)) (.node (.eq (.at 12) (.int 0)) (.node (.at 7) (.leaf (.int .i64 2)) (.node (.lt (.at 13) (.int 0)) (.node (.lt (.at 11) (.int (-840))) (.leaf (.int .i64 2)) (.node (.lt (.int 840) (.at 11)) (.leaf (.int .i64 2)) (.node (.at 10) (.leaf (.int .i64 0)) (.node (.eq (.at 11) (.int 0)) (.leaf (.int .i64 0)) (.leaf (.int .i64 2)))))) (.leaf (.int .i64 2)))) (.leaf (.int .i64 2))))))) (.leaf (.int .i64 2))) (.leaf (.int .i64 2))) (.leaf (.int .i64 2)))
def trRcheck3 : Tree := (.node (.lt (.at 2) (.int (-9999))) (.leaf (.int .i64 2)) (.node (.lt (.int 9999) (.at 2)) (.leaf (.int .i64 2)) (.node (.eq (.at 2) (.int 0)) (.leaf (.int .i64 2)) (.node (.lt (.at 3) (.int 1)) (.leaf (.int .i64 2)) (.node (.lt (.int 12) (.at 3)) (.leaf (.int .i64 2)) (.node (.lt (.at 4) (.int 1)) (.leaf (.int .i64 2)) (.node (.lt (.at 14) (.at 4)) (.leaf (.int .i64 2)) (.node (.lt (.at 5) (.int 0)) (.leaf (.int .i64 2)) (.node (.lt (.int 23) (.at 5)) (.leaf (.int .i64 2)) (.node (.lt (.at 6) (.int 0)) (.leaf (.int .i64 2)) (.node (.lt (.int 59) (.at 6)) (.leaf (.int .i64 2)) (.node (.eq (.at 12) (.int 0)) (.node (.at 7) (.leaf (.int .i64 2)) (.node (.lt (.at 13) (.int 0)) (.node (.lt (.at 11) (.int (-840))) (.leaf (.int .i64 2)) (.node (.lt (.int 840) (.at 11)) (.leaf (.int .i64 2)) (.node (.at 10) (.leaf (.int .i64 0)) (.node (.eq (.at 11) (.int 0)) (.leaf (.int .i64 0)) (.leaf (.int .i64 2)))))) (.leaf (.int .i64 2)))) (.leaf (.int .i64 2))))))))))))))
def trCheck : Tree := (.node (.at 12) (.leaf (.int .i64 0)) (.leaf (.int .i64 2)))
def sx : V := .agg [.bool false, .str [54, 48], it 0]
def vaC : List CallX := [⟨107, [xi 2], [(.lt (.at 2) (.int (-9999)), false), (.lt (.int 9999) (.at 2), false)], xi 15⟩, ⟨106, [xi 15, xi 3], [(.lt (.at 3) (.int 1), false), (.lt (.int 12) (.at 3), false)], xi 14⟩, ⟨108, [it 60], [], sx⟩, ⟨43, [deV 7, sx], [], .tup [xi 12, xi 13]⟩]
def vaE (x : Mo) : List Value := x.list ++ [.int .i64 (cmpR x.n x.s x.S false Mo.sixty 0).1, .int .i64 (cmpR x.n x.s x.S false Mo.sixty 0).2, .int .i64 (Mo.dim (Mo.counted x.y) x.m), .int .i64 (Mo.counted x.y)]
def cntT : Tree := .node (.lt (.at 1) (.int 0)) (.leaf (.xi .i64 (.add .i64 (.at 1) (.int 1)))) (.leaf (.xi .i64 (.at 1)))
theorem run_cnt : chk (runTr Tryz.prog nG (fun _ => none) gd moT [] 100 107 [xi 1] h0) cntT [] = true := by decide +kernel
theorem run_rcnt : chk (runTr Tryz.prog nG (fun _ => none) gd moT [] 100 76 [xi 1] h0) cntT [] = true := by decide +kernel
theorem cnt_at {E : Nat -> Value} {y : Int} (h : E 1 = .int .i64 y) (h1 : -9223372036854775808 <= y) : (cntT.at E).den L0 E = .int .i64 (Mo.counted y) := by
 simp only [cntT, Tree.at, X.evB, X.evI, h, Mo.counted]
 by_cases hy : y < 0
 ·rw [decide_eq_true hy, if_pos hy]
  simp only [cond_true, V.den, X.evI, h]
  rw [IntKind.wrap_i64, show (y + 1 + 9223372036854775808) % 18446744073709551616 - 9223372036854775808 = y + 1 by omega]
 ·rw [decide_eq_false hy, if_neg hy]
  simp only [cond_false, V.den, X.evI, h]
theorem pcounted_is (y : Int) (h1 : -9223372036854775808 <= y) (w : World) (M : Int) (hV : Vars M w) : Calls Tryz.prog 107 #[.int .i64 y] w fun e w' => e = .returned (.int .i64 (Mo.counted y)) /\ Below w.heap.size w w' := by
 have h := tree_run (env := [.int .i64 y]) run_cnt trivial rfl trivial rfl hV
 rw [cnt_at rfl h1] at h
 exact h
theorem rcounted_is (y : Int) (h1 : -9223372036854775808 <= y) (w : World) (M : Int) (hV : Vars M w) : Calls Tryz.prog 76 #[.int .i64 y] w fun e w' => e = .returned (.int .i64 (Mo.counted y)) /\ Below w.heap.size w w' := by
 have h := tree_run (env := [.int .i64 y]) run_rcnt trivial rfl trivial rfl hV
 rw [cnt_at rfl h1] at h
 exact h
theorem run_valid1 : chk (runTr Tryz.prog nG (fun _ => none) gd moT vaC 100 72 [moK 1 1] h0) trValid1 [] = true := by decide +kernel
theorem va_ok (x : Mo) (hs : x.s.size <= 1000000) (M : Int) : AllX Tryz.prog (envE (.int .i64 M :: vaE x)) (Vars M) vaC :=
 ⟨⟨rfl, fk, fun hp L w hV => pcounted_is x.y (by have h : decide (x.y < -9999) = false := hp.1; have := of_decide_eq_false h; omega) w M hV⟩,
  ⟨rfl, fk, fun hp L w hV => plength_is (Mo.counted x.y) x.m (by have h : decide (x.m < 1) = false := hp.1; have := of_decide_eq_false h; omega) (by have h : decide (12 < x.m) = false := hp.2.1; have := of_decide_eq_false h; omega) w M hV⟩,
  ⟨rfl, fk, fun _ L w hV => pOf_any 60 (by decide) (by decide) w hV.pow⟩,
  ⟨rfl, fk, fun _ L w hV => pcmp_is x.n x.s x.S false Mo.sixty 0 hs (by decide) _ _ rfl w⟩, trivial⟩
def noKind : Fx := [(.eq (.at 1) (.int 1), false), (.eq (.at 1) (.int 3), false), (.eq (.at 1) (.int 2), false)]
def rvaC : List CallX := [⟨76, [xi 2], [(.lt (.at 2) (.int (-9999)), false), (.lt (.int 9999) (.at 2), false)], xi 15⟩, ⟨75, [xi 15, xi 3], [(.lt (.at 3) (.int 1), false), (.lt (.int 12) (.at 3), false)], xi 14⟩, ⟨78, [it 60], [], sx⟩, ⟨39, [deV 7], [], xi 12⟩, ⟨45, [deV 7, sx], [], .tup [xi 13, xi 16]⟩]
def rvaE (x : Mo) : List Value := x.list ++ [.int .i64 (ckI x.n x.s x.S), .int .i64 (cmpR x.n x.s x.S false Mo.sixty 0).1, .int .i64 (Mo.dim (Mo.counted x.y) x.m), .int .i64 (Mo.counted x.y), .int .i64 (cmpR x.n x.s x.S false Mo.sixty 0).2]
def smallT : Tree := .leaf (deV 2)
theorem run_small : chk (runTr Tryz.prog nG (fun _ => none) gd moT [⟨110, [xi 1], [], deV 2⟩] 100 78 [xi 1] h0) smallT [] = true := by decide +kernel
theorem rsmall_is (n : Int) (h0 : -9223372036854775808 <= n) (h1 : n <= 9223372036854775807) (w : World) (M : Int) (hV : Vars M w) : Calls Tryz.prog 78 #[.int .i64 n] w fun e w' => e = .returned (.agg #[.bool (decide (n < 0)), .string (str (Dc.digs n.natAbs)), .int .i64 0]) /\ Below w.heap.size w w' :=
 tree_run (env := [.int .i64 n, .bool (decide (n < 0)), .string (str (Dc.digs n.natAbs)), .int .i64 0]) run_small ⟨⟨rfl, fk, fun _ L w _ => rOf_any n h0 h1 w⟩, trivial⟩ rfl trivial rfl hV
theorem rva_ok (x : Mo) (hs : x.s.size <= 1000000) (M : Int) : AllX Tryz.prog (envE (.int .i64 M :: rvaE x)) (Vars M) rvaC :=
 ⟨⟨rfl, fk, fun hp L w hV => rcounted_is x.y (by have h : decide (x.y < -9999) = false := hp.1; have := of_decide_eq_false h; omega) w M hV⟩,
  ⟨rfl, fk, fun hp L w hV => rlength_is (Mo.counted x.y) x.m (by have h : decide (x.m < 1) = false := hp.1; have := of_decide_eq_false h; omega) (by have h : decide (12 < x.m) = false := hp.2.1; have := of_decide_eq_false h; omega) w M hV⟩,
  ⟨rfl, fk, fun _ L w hV => rsmall_is 60 (by decide) (by decide) w M hV⟩,
  ⟨rfl, fk, fun _ L w hV => rcheck_r x.n x.s x.S hs _ rfl w⟩,
  ⟨rfl, fk, fun _ L w hV => rcmp_is x.n x.s x.S false Mo.sixty 0 hs (by decide) _ _ rfl w⟩, trivial⟩
theorem run_valid2 : chk (runTr Tryz.prog nG (fun _ => none) gd moT vaC 100 72 [moK 2 1] h0) trValid2 [] = true := by decide +kernel
theorem run_valid3 : chk (runTr Tryz.prog nG (fun _ => none) gd moT vaC 100 72 [moK 3 1] h0) trValid3 [] = true := by decide +kernel
theorem run_valid0 : chk (runTr Tryz.prog nG (fun _ => none) gd moT vaC 100 72 [moV 1] h0) trValid0 noKind = true := by decide +kernel
theorem run_rcheck1 : chk (runTr Tryz.prog nG (fun _ => none) gd moT rvaC 100 40 [moK 1 1] h0) trRcheck1 [] = true := by decide +kernel
theorem run_rcheck2 : chk (runTr Tryz.prog nG (fun _ => none) gd moT rvaC 100 40 [moK 2 1] h0) trRcheck2 [] = true := by decide +kernel
theorem run_rcheck3 : chk (runTr Tryz.prog nG (fun _ => none) gd moT rvaC 100 40 [moK 3 1] h0) trRcheck3 [] = true := by decide +kernel
theorem run_rcheck0 : chk (runTr Tryz.prog nG (fun _ => none) gd moT rvaC 100 40 [moV 1] h0) trRcheck0 noKind = true := by decide +kernel
theorem ite_ind {α : Type} {p : Prop} [Decidable p] {a b c : α} (h1 : p -> a = c) (h2 : ¬p -> b = c) : (if p then a else b) = c := by
 by_cases h : p
 ·rw [if_pos h]; exact h1 h
 ·rw [if_neg h]; exact h2 h
theorem ok1 {x : Mo} (h : x.k = 1) : Mo.Ok x ↔ -840 <= x.o /\ x.o <= 840 /\ (x.z = false -> x.o = 0) /\ Mo.dateOk x /\ Mo.noTime x := by
 unfold Mo.Ok; rw [if_neg (by omega), if_pos h]; constructor
 ·rintro ⟨_, h⟩; exact h
 ·intro q; exact ⟨.inl h, q⟩
theorem ok2 {x : Mo} (h : x.k = 2) : Mo.Ok x ↔ -840 <= x.o /\ x.o <= 840 /\ (x.z = false -> x.o = 0) /\ Mo.noDate x /\ Mo.timeOk x := by
 unfold Mo.Ok; rw [if_pos h, if_neg (by omega)]; constructor
 ·rintro ⟨_, h⟩; exact h
 ·intro q; exact ⟨.inr (.inl h), q⟩
theorem ok3 {x : Mo} (h : x.k = 3) : Mo.Ok x ↔ -840 <= x.o /\ x.o <= 840 /\ (x.z = false -> x.o = 0) /\ Mo.dateOk x /\ Mo.timeOk x := by
 unfold Mo.Ok; rw [if_neg (by omega), if_neg (by omega)]; constructor
 ·rintro ⟨_, h⟩; exact h
 ·intro q; exact ⟨.inr (.inr h), q⟩
theorem sec_cmp (x : Mo) : cmpR x.n x.s x.S false Mo.sixty 0 = if okB x.n x.s x.S = true then (Dc.cmpD (rawD x.n x.s x.S) (false, 60, 0), 0) else (0, 2) := by
 have h : okB false Mo.sixty 0 = true := by decide
 unfold cmpR
 by_cases hk : okB x.n x.s x.S = true
 ·rw [if_pos ⟨hk, h⟩, if_pos hk]; rfl
 ·rw [if_neg (fun q => hk q.1), if_neg hk]
theorem sec_p (x : Mo) : x.secB = (decide ((cmpR x.n x.s x.S false Mo.sixty 0).2 = 0) && (!decide (0 <= (cmpR x.n x.s x.S false Mo.sixty 0).1) && !x.n)) := by
 unfold Mo.secB
 rw [sec_cmp]
 cases okB x.n x.s x.S with
 | false => rfl
 | true =>
  simp only [if_true, Bool.true_and, decide_true]
  by_cases h : Dc.cmpD (rawD x.n x.s x.S) (false, 60, 0) < 0
  ·rw [decide_eq_true h, decide_eq_false (by omega)]; simp
  ·rw [decide_eq_false h, decide_eq_true (by omega)]; simp
theorem sec_r (x : Mo) : x.secB = (decide (ckI x.n x.s x.S = 0) && (!x.n && decide ((cmpR x.n x.s x.S false Mo.sixty 0).1 < 0))) := by
 unfold Mo.secB ckI
 cases okB x.n x.s x.S with
 | false => rfl
 | true => rfl
theorem valid1_at (x : Mo) (M : Int) (hk : x.k = 1) : trValid1.at (envE (.int .i64 M :: vaE x)) = .bool (Mo.okB x) := by
 generalize hE : envE (.int .i64 M :: vaE x) = E
 have e2 : E 2 = .int .i64 x.y := by rw [<- hE]; rfl
 have e3 : E 3 = .int .i64 x.m := by rw [<- hE]; rfl
 have e4 : E 4 = .int .i64 x.d := by rw [<- hE]; rfl
 have e5 : E 5 = .int .i64 x.h := by rw [<- hE]; rfl
 have e6 : E 6 = .int .i64 x.i := by rw [<- hE]; rfl
 have e7 : E 7 = .bool x.n := by rw [<- hE]; rfl
 have e8 : E 8 = .string x.s := by rw [<- hE]; rfl
 have e9 : E 9 = .int .i64 x.S := by rw [<- hE]; rfl
 have e10 : E 10 = .bool x.z := by rw [<- hE]; rfl
 have e11 : E 11 = .int .i64 x.o := by rw [<- hE]; rfl
 have e12 : E 12 = .int .i64 (cmpR x.n x.s x.S false Mo.sixty 0).1 := by rw [<- hE]; rfl
 have e13 : E 13 = .int .i64 (cmpR x.n x.s x.S false Mo.sixty 0).2 := by rw [<- hE]; rfl
 have e14 : E 14 = .int .i64 (Mo.dim (Mo.counted x.y) x.m) := by rw [<- hE]; rfl
 clear hE
 have hs := sec_p x
 have hq : Mo.okB x = true ↔ Mo.Ok x := by unfold Mo.okB; exact decide_eq_true_iff
 have hb : Go.Ex.bytes [] = ⟨#[]⟩ := rfl
 rw [ok1 hk] at hq
 simp only [Mo.dateOk, Mo.noTime] at hq
 simp only [trValid1, Tree.at, X.evB, X.evI, X.evS, e2, e3, e4, e5, e6, e7, e8, e9, e10, e11, e14, hb, Bool.cond_eq_ite, decide_eq_true_eq, beq_iff_eq]
 obtain ⟨b, hw⟩ : ∃ b, Mo.okB x = b := ⟨_, rfl⟩
 rw [hw] at hq ⊢
 clear e2 e3 e4 e5 e6 e7 e8 e9 e10 e11 e12 e13 e14 hb hs hk hw
 cases b <;> (repeat' (refine ite_ind (fun h => ?_) (fun h => ?_))) <;> first | rfl | (exfalso; grind)
theorem valid2_at (x : Mo) (M : Int) (hk : x.k = 2) : trValid2.at (envE (.int .i64 M :: vaE x)) = .bool (Mo.okB x) := by
 generalize hE : envE (.int .i64 M :: vaE x) = E
 have e2 : E 2 = .int .i64 x.y := by rw [<- hE]; rfl
 have e3 : E 3 = .int .i64 x.m := by rw [<- hE]; rfl
 have e4 : E 4 = .int .i64 x.d := by rw [<- hE]; rfl
 have e5 : E 5 = .int .i64 x.h := by rw [<- hE]; rfl
 have e6 : E 6 = .int .i64 x.i := by rw [<- hE]; rfl
 have e7 : E 7 = .bool x.n := by rw [<- hE]; rfl
 have e8 : E 8 = .string x.s := by rw [<- hE]; rfl
 have e9 : E 9 = .int .i64 x.S := by rw [<- hE]; rfl
 have e10 : E 10 = .bool x.z := by rw [<- hE]; rfl
 have e11 : E 11 = .int .i64 x.o := by rw [<- hE]; rfl
 have e12 : E 12 = .int .i64 (cmpR x.n x.s x.S false Mo.sixty 0).1 := by rw [<- hE]; rfl
 have e13 : E 13 = .int .i64 (cmpR x.n x.s x.S false Mo.sixty 0).2 := by rw [<- hE]; rfl
 have e14 : E 14 = .int .i64 (Mo.dim (Mo.counted x.y) x.m) := by rw [<- hE]; rfl
 clear hE
 have hs := sec_p x
 have hq : Mo.okB x = true ↔ Mo.Ok x := by unfold Mo.okB; exact decide_eq_true_iff
 have hb : Go.Ex.bytes [] = ⟨#[]⟩ := rfl
 rw [ok2 hk] at hq
 simp only [Mo.timeOk, Mo.noDate, hs] at hq
 simp only [trValid2, Tree.at, X.evB, X.evI, e2, e3, e4, e5, e6, e7, e10, e11, e12, e13, Bool.cond_eq_ite, decide_eq_true_eq]
 obtain ⟨b, hw⟩ : ∃ b, Mo.okB x = b := ⟨_, rfl⟩
 rw [hw] at hq ⊢
 clear e2 e3 e4 e5 e6 e7 e8 e9 e10 e11 e12 e13 e14 hb hs hk hw
 cases b <;> (repeat' (refine ite_ind (fun h => ?_) (fun h => ?_))) <;> first | rfl | (exfalso; grind)
theorem valid3_at (x : Mo) (M : Int) (hk : x.k = 3) : trValid3.at (envE (.int .i64 M :: vaE x)) = .bool (Mo.okB x) := by
 generalize hE : envE (.int .i64 M :: vaE x) = E
 have e2 : E 2 = .int .i64 x.y := by rw [<- hE]; rfl
 have e3 : E 3 = .int .i64 x.m := by rw [<- hE]; rfl
 have e4 : E 4 = .int .i64 x.d := by rw [<- hE]; rfl
 have e5 : E 5 = .int .i64 x.h := by rw [<- hE]; rfl
 have e6 : E 6 = .int .i64 x.i := by rw [<- hE]; rfl
 have e7 : E 7 = .bool x.n := by rw [<- hE]; rfl
 have e8 : E 8 = .string x.s := by rw [<- hE]; rfl
 have e9 : E 9 = .int .i64 x.S := by rw [<- hE]; rfl
 have e10 : E 10 = .bool x.z := by rw [<- hE]; rfl
 have e11 : E 11 = .int .i64 x.o := by rw [<- hE]; rfl
 have e12 : E 12 = .int .i64 (cmpR x.n x.s x.S false Mo.sixty 0).1 := by rw [<- hE]; rfl
 have e13 : E 13 = .int .i64 (cmpR x.n x.s x.S false Mo.sixty 0).2 := by rw [<- hE]; rfl
 have e14 : E 14 = .int .i64 (Mo.dim (Mo.counted x.y) x.m) := by rw [<- hE]; rfl
 clear hE
 have hs := sec_p x
 have hq : Mo.okB x = true ↔ Mo.Ok x := by unfold Mo.okB; exact decide_eq_true_iff
 have hb : Go.Ex.bytes [] = ⟨#[]⟩ := rfl
 rw [ok3 hk] at hq
 simp only [Mo.dateOk, Mo.timeOk, hs] at hq
 simp only [trValid3, Tree.at, X.evB, X.evI, e2, e3, e4, e5, e6, e7, e10, e11, e12, e13, e14, Bool.cond_eq_ite, decide_eq_true_eq]
 obtain ⟨b, hw⟩ : ∃ b, Mo.okB x = b := ⟨_, rfl⟩
 rw [hw] at hq ⊢
 clear e2 e3 e4 e5 e6 e7 e8 e9 e10 e11 e12 e13 e14 hb hs hk hw
 cases b <;> (repeat' (refine ite_ind (fun h => ?_) (fun h => ?_))) <;> first | rfl | (exfalso; grind)
theorem rcheck1_at (x : Mo) (M : Int) (hk : x.k = 1) : trRcheck1.at (envE (.int .i64 M :: rvaE x)) = .int .i64 (bif Mo.okB x then 0 else 2) := by
 generalize hE : envE (.int .i64 M :: rvaE x) = E
 have e2 : E 2 = .int .i64 x.y := by rw [<- hE]; rfl
 have e3 : E 3 = .int .i64 x.m := by rw [<- hE]; rfl
 have e4 : E 4 = .int .i64 x.d := by rw [<- hE]; rfl
 have e5 : E 5 = .int .i64 x.h := by rw [<- hE]; rfl
 have e6 : E 6 = .int .i64 x.i := by rw [<- hE]; rfl
 have e7 : E 7 = .bool x.n := by rw [<- hE]; rfl
 have e8 : E 8 = .string x.s := by rw [<- hE]; rfl
 have e9 : E 9 = .int .i64 x.S := by rw [<- hE]; rfl
 have e10 : E 10 = .bool x.z := by rw [<- hE]; rfl
 have e11 : E 11 = .int .i64 x.o := by rw [<- hE]; rfl
 have e12 : E 12 = .int .i64 (ckI x.n x.s x.S) := by rw [<- hE]; rfl
 have e13 : E 13 = .int .i64 (cmpR x.n x.s x.S false Mo.sixty 0).1 := by rw [<- hE]; rfl
 have e14 : E 14 = .int .i64 (Mo.dim (Mo.counted x.y) x.m) := by rw [<- hE]; rfl
 clear hE
 have hs := sec_r x
 have hq : Mo.okB x = true ↔ Mo.Ok x := by unfold Mo.okB; exact decide_eq_true_iff
 have hb : Go.Ex.bytes [] = ⟨#[]⟩ := rfl
 rw [ok1 hk] at hq
 simp only [Mo.dateOk, Mo.noTime] at hq
 simp only [trRcheck1, Tree.at, X.evB, X.evI, X.evS, e2, e3, e4, e5, e6, e7, e8, e9, e10, e11, e14, hb, Bool.cond_eq_ite, decide_eq_true_eq, beq_iff_eq]
 obtain ⟨b, hw⟩ : ∃ b, Mo.okB x = b := ⟨_, rfl⟩
 rw [hw] at hq ⊢
 clear e2 e3 e4 e5 e6 e7 e8 e9 e10 e11 e12 e13 e14 hb hs hk hw
 cases b <;> (repeat' (refine ite_ind (fun h => ?_) (fun h => ?_))) <;> first | rfl | (exfalso; grind)
theorem rcheck2_at (x : Mo) (M : Int) (hk : x.k = 2) : trRcheck2.at (envE (.int .i64 M :: rvaE x)) = .int .i64 (bif Mo.okB x then 0 else 2) := by
 generalize hE : envE (.int .i64 M :: rvaE x) = E
 have e2 : E 2 = .int .i64 x.y := by rw [<- hE]; rfl
 have e3 : E 3 = .int .i64 x.m := by rw [<- hE]; rfl
 have e4 : E 4 = .int .i64 x.d := by rw [<- hE]; rfl
 have e5 : E 5 = .int .i64 x.h := by rw [<- hE]; rfl
 have e6 : E 6 = .int .i64 x.i := by rw [<- hE]; rfl
 have e7 : E 7 = .bool x.n := by rw [<- hE]; rfl
 have e8 : E 8 = .string x.s := by rw [<- hE]; rfl
 have e9 : E 9 = .int .i64 x.S := by rw [<- hE]; rfl
 have e10 : E 10 = .bool x.z := by rw [<- hE]; rfl
 have e11 : E 11 = .int .i64 x.o := by rw [<- hE]; rfl
 have e12 : E 12 = .int .i64 (ckI x.n x.s x.S) := by rw [<- hE]; rfl
 have e13 : E 13 = .int .i64 (cmpR x.n x.s x.S false Mo.sixty 0).1 := by rw [<- hE]; rfl
 have e14 : E 14 = .int .i64 (Mo.dim (Mo.counted x.y) x.m) := by rw [<- hE]; rfl
 clear hE
 have hs := sec_r x
 have hq : Mo.okB x = true ↔ Mo.Ok x := by unfold Mo.okB; exact decide_eq_true_iff
 have hb : Go.Ex.bytes [] = ⟨#[]⟩ := rfl
 rw [ok2 hk] at hq
 simp only [Mo.timeOk, Mo.noDate, hs] at hq
 simp only [trRcheck2, Tree.at, X.evB, X.evI, e2, e3, e4, e5, e6, e7, e10, e11, e12, e13, Bool.cond_eq_ite, decide_eq_true_eq]
 obtain ⟨b, hw⟩ : ∃ b, Mo.okB x = b := ⟨_, rfl⟩
 rw [hw] at hq ⊢
 clear e2 e3 e4 e5 e6 e7 e8 e9 e10 e11 e12 e13 e14 hb hs hk hw
 cases b <;> (repeat' (refine ite_ind (fun h => ?_) (fun h => ?_))) <;> first | rfl | (exfalso; grind)
theorem rcheck3_at (x : Mo) (M : Int) (hk : x.k = 3) : trRcheck3.at (envE (.int .i64 M :: rvaE x)) = .int .i64 (bif Mo.okB x then 0 else 2) := by
 generalize hE : envE (.int .i64 M :: rvaE x) = E
 have e2 : E 2 = .int .i64 x.y := by rw [<- hE]; rfl
 have e3 : E 3 = .int .i64 x.m := by rw [<- hE]; rfl
 have e4 : E 4 = .int .i64 x.d := by rw [<- hE]; rfl
 have e5 : E 5 = .int .i64 x.h := by rw [<- hE]; rfl
 have e6 : E 6 = .int .i64 x.i := by rw [<- hE]; rfl
 have e7 : E 7 = .bool x.n := by rw [<- hE]; rfl
 have e8 : E 8 = .string x.s := by rw [<- hE]; rfl
 have e9 : E 9 = .int .i64 x.S := by rw [<- hE]; rfl
 have e10 : E 10 = .bool x.z := by rw [<- hE]; rfl
 have e11 : E 11 = .int .i64 x.o := by rw [<- hE]; rfl
 have e12 : E 12 = .int .i64 (ckI x.n x.s x.S) := by rw [<- hE]; rfl
 have e13 : E 13 = .int .i64 (cmpR x.n x.s x.S false Mo.sixty 0).1 := by rw [<- hE]; rfl
 have e14 : E 14 = .int .i64 (Mo.dim (Mo.counted x.y) x.m) := by rw [<- hE]; rfl
 clear hE
 have hs := sec_r x
 have hq : Mo.okB x = true ↔ Mo.Ok x := by unfold Mo.okB; exact decide_eq_true_iff
 have hb : Go.Ex.bytes [] = ⟨#[]⟩ := rfl
 rw [ok3 hk] at hq
 simp only [Mo.dateOk, Mo.timeOk, hs] at hq
 simp only [trRcheck3, Tree.at, X.evB, X.evI, e2, e3, e4, e5, e6, e7, e10, e11, e12, e13, e14, Bool.cond_eq_ite, decide_eq_true_eq]
 obtain ⟨b, hw⟩ : ∃ b, Mo.okB x = b := ⟨_, rfl⟩
 rw [hw] at hq ⊢
 clear e2 e3 e4 e5 e6 e7 e8 e9 e10 e11 e12 e13 e14 hb hs hk hw
 cases b <;> (repeat' (refine ite_ind (fun h => ?_) (fun h => ?_))) <;> first | rfl | (exfalso; grind)
theorem noKind_ok {x : Mo} {M : Int} {r : List Value} (h1 : x.k ≠ 1) (h2 : x.k ≠ 2) (h3 : x.k ≠ 3) : noKind.Ok (envE (.int .i64 M :: (x.list ++ r))) := by
 have e : envE (.int .i64 M :: (x.list ++ r)) 1 = .int .i64 x.k := rfl
 refine ⟨?_, ?_, ?_, trivial⟩ <;> simp only [X.evB, X.evI, e] <;> exact decide_eq_false (by omega)
theorem ok_kind {x : Mo} (h : Mo.okB x = true) : x.k = 1 \/ x.k = 2 \/ x.k = 3 := (of_decide_eq_true h).1
theorem noK {x : Mo} (h1 : x.k ≠ 1) (h2 : x.k ≠ 2) (h3 : x.k ≠ 3) : Mo.okB x = false := by
 cases h : Mo.okB x with
 | false => rfl
 | true => rcases ok_kind h with h | h | h <;> contradiction
theorem pvalid_is (x : Mo) (hs : x.s.size <= 1000000) (w : World) (M : Int) (hV : Vars M w) : Calls Tryz.prog 72 #[x.val] w fun e w' => e = .returned (.bool (Mo.okB x)) /\ Below w.heap.size w w' := by
 by_cases h1 : x.k = 1
 ·have h := tree_run (env := vaE x) run_valid1 (va_ok x hs M) rfl trivial rfl hV
  rw [valid1_at x M h1] at h
  obtain ⟨k, y, m, d, hh, i, n, s, S, z, o⟩ := x
  simp only at h1; subst h1
  exact h
 by_cases h2 : x.k = 2
 ·have h := tree_run (env := vaE x) run_valid2 (va_ok x hs M) rfl trivial rfl hV
  rw [valid2_at x M h2] at h
  obtain ⟨k, y, m, d, hh, i, n, s, S, z, o⟩ := x
  simp only at h2; subst h2
  exact h
 by_cases h3 : x.k = 3
 ·have h := tree_run (env := vaE x) run_valid3 (va_ok x hs M) rfl trivial rfl hV
  rw [valid3_at x M h3] at h
  obtain ⟨k, y, m, d, hh, i, n, s, S, z, o⟩ := x
  simp only at h3; subst h3
  exact h
 ·have h := tree_run (env := vaE x) run_valid0 (va_ok x hs M) rfl (noKind_ok h1 h2 h3) rfl hV
  rw [noK h1 h2 h3]
  exact h
theorem rcheckm_is (x : Mo) (hs : x.s.size <= 1000000) (w : World) (M : Int) (hV : Vars M w) : Calls Tryz.prog 40 #[x.val] w fun e w' => e = .returned (.int .i64 (bif Mo.okB x then 0 else 2)) /\ Below w.heap.size w w' := by
 by_cases h1 : x.k = 1
 ·have h := tree_run (env := rvaE x) run_rcheck1 (rva_ok x hs M) rfl trivial rfl hV
  rw [rcheck1_at x M h1] at h
  obtain ⟨k, y, m, d, hh, i, n, s, S, z, o⟩ := x
  simp only at h1; subst h1
  exact h
 by_cases h2 : x.k = 2
 ·have h := tree_run (env := rvaE x) run_rcheck2 (rva_ok x hs M) rfl trivial rfl hV
  rw [rcheck2_at x M h2] at h
  obtain ⟨k, y, m, d, hh, i, n, s, S, z, o⟩ := x
  simp only at h2; subst h2
  exact h
 by_cases h3 : x.k = 3
 ·have h := tree_run (env := rvaE x) run_rcheck3 (rva_ok x hs M) rfl trivial rfl hV
  rw [rcheck3_at x M h3] at h
  obtain ⟨k, y, m, d, hh, i, n, s, S, z, o⟩ := x
  simp only at h3; subst h3
  exact h
 ·have h := tree_run (env := rvaE x) run_rcheck0 (rva_ok x hs M) rfl (noKind_ok h1 h2 h3) rfl hV
  rw [noK h1 h2 h3]
  exact h
def valC (b r : Nat) : CallX := ⟨72, [moV b], [], xb r⟩
theorem valC_ok {E : Nat -> Value} {b r : Nat} {M : Int} (x : Mo) (hs : x.s.size <= 1000000) (h : ∀ L, (moV b).den L E = x.val) (hr : E r = .bool (Mo.okB x)) : (valC b r).Ok Tryz.prog E (Vars M) := by
 refine ⟨rfl, fk, fun _ L w hV => ?_⟩
 have e1 : V.dens L E (valC b r).args = [x.val] := by simp only [valC, V.dens, h]
 have e2 : (valC b r).r.den L E = .bool (Mo.okB x) := by simp only [valC, xb, V.den, X.evB, hr]
 show Calls _ _ (V.dens L E (valC b r).args).toArray w fun q w' => q = .returned ((valC b r).r.den L E) /\ Below w.heap.size w w'
 rw [e1, e2]
 exact pvalid_is x hs w M hV
theorem run_check : chk (runTr Tryz.prog nG (fun _ => none) gd moT [valC 1 12] 100 35 [moV 1] h0) trCheck [] = true := by decide +kernel
theorem pcheckm_is (x : Mo) (hs : x.s.size <= 1000000) (w : World) (M : Int) (hV : Vars M w) : Calls Tryz.prog 35 #[x.val] w fun e w' => e = .returned (.int .i64 (bif Mo.okB x then 0 else 2)) /\ Below w.heap.size w w' := by
 have h := tree_run (env := x.list ++ [.bool (Mo.okB x)]) run_check ⟨valC_ok x hs (fun _ => rfl) rfl, trivial⟩ rfl trivial rfl hV
 have e : trCheck.at (envE (.int .i64 M :: (x.list ++ [.bool (Mo.okB x)]))) = it (bif Mo.okB x then 0 else 2) := by
  show (bif Mo.okB x then _ else _) = _
  cases Mo.okB x <;> rfl
 rw [e] at h
 exact h
end Go.Proofs.YthoojcdjjecogaaGreatDoor
