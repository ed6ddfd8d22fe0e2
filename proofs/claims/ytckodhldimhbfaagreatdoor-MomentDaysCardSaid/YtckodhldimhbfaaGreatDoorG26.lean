/-
  Part 26 of the proof: what functions return, and plain facts (Mpof). Conditions: each theorem names its own.
-/
import Derived.Test.YtckodhldimhbfaaGreatDoorG19b
set_option maxRecDepth 1000000
set_option maxHeartbeats 16000000
namespace Go.Proofs.YtckodhldimhbfaaGreatDoor
open Go Go.RowKit Go.Ex

def trOf1 : Tree := (.node (.lt (.rem (.at 1) (.int 86400)) (.int 0)) (.node (.lt (.sub .i64 (.quo .i64 (.at 1) (.int 86400)) (.int 1)) (.int (-4000000))) (.leaf (.tup [(.agg [(.int .i64 0), (.int .i64 0), (.int .i64 0), (.int .i64 0), (.int .i64 0), (.int .i64 0), (.bool false), (.str []), (.int .i64 0), (.bool false), (.int .i64 0)]), (.int .i64 7)])) (.node (.lt (.int 4000000) (.sub .i64 (.quo .i64 (.at 1) (.int 86400)) (.int 1))) (.leaf (.tup [(.agg [(.int .i64 0), (.int .i64 0), (.int .i64 0), (.int .i64 0), (.int .i64 0), (.int .i64 0), (.bool false), (.str []), (.int .i64 0), (.bool false), (.int .i64 0)]), (.int .i64 7)])) (.node (.lt (.at 5) (.int 1)) (.node (.lt (.sub .i64 (.at 5) (.int 1)) (.int (-9999))) (.leaf (.tup [(.agg [(.int .i64 0), (.int .i64 0), (.int .i64 0), (.int .i64 0), (.int .i64 0), (.int .i64 0), (.bool false), (.str []), (.int .i64 0), (.bool false), (.int .i64 0)]), (.int .i64 7)])) (.node (.lt (.int 9999) (.sub .i64 (.at 5) (.int 1))) (.leaf (.tup [(.agg [(.int .i64 0), (.int .i64 0), (.int .i64 0), (.int .i64 0), (.int .i64 0), (.int .i64 0), (.bool false), (.str []), (.int .i64 0), (.bool false), (.int .i64 0)]), (.int .i64 7)])) (.leaf (.tup [(.agg [(.int .i64 1), (.xi .i64 (.sub .i64 (.at 5) (.int 1))), (.xi .i64 (.at 6)), (.xi .i64 (.at 7)), (.int .i64 0), (.int .i64 0), (.bool false), (.str []), (.int .i64 0), (.bool false), (.int .i64 0)]), (.int .i64 0)])))) (.node (.lt (.at 5) (.int (-9999))) (.leaf (.tup [(.agg [(.int .i64 0), (.int .i64 0), (.int .i64 0), (.int .i64 0), (.int .i64 0), (.int .i64 0), (.bool false), (.str []), (.int .i64 0), (.bool false), (.int .i64 0)]), (.int .i64 7)])) (.node (.lt (.int 9999) (.at 5)) (.leaf (.tup [(.agg [(.int .i64 0), (.int .i64 0), (.int .i64 0), (.int .i64 0), (.int .i64 0), (.int .i64 0), (.bool false), (.str []), (.int .i64 0), (.bool false), (.int .i64 0)]), (.int .i64 7)])) (.leaf (.tup [(.agg [(.int .i64 1), (.xi .i64 (.at 5)), (.xi .i64 (.at 6)), (.xi .i64 (.at 7)), (.int .i64 0), (.int .i64 0), (.bool false), (.str []), (.int .i64 0), (.bool false), (.int .i64 0)]), (.int .i64 0)]))))))) (.node (.lt (.quo .i64 (.at 1) (.int 86400)) (.int (-4000000))) (.leaf (.tup [(.agg [(.int .i64 0), (.int .i64 0), (.int .i64 0), (.int .i64 0), (.int .i64 0), (.int .i64 0), (.bool false), (.str []), (.int .i64 0), (.bool false), (.int .i64 0)]), (.int .i64 7)])) (.node (.lt (.int 4000000) (.quo .i64 (.at 1) (.int 86400))) (.leaf (.tup [(.agg [(.int .i64 0), (.int .i64 0), (.int .i64 0), (.int .i64 0), (.int .i64 0), (.int .i64 0), (.bool false), (.str []), (.int .i64 0), (.bool false), (.int .i64 0)]), (.int .i64 7)])) (.node (.lt (.at 5) (.int 1)) (.node (.lt (.sub .i64 (.at 5) (.int 1)) (.int (-9999))) (.leaf (.tup [(.agg [(.int .i64 0), (.int .i64 0), (.int .i64 0), (.int .i64 0), (.int .i64 0), (.int .i64 0), (.bool false), (.str []), (.int .i64 0), (.bool false), (.int .i64 0)]), (.int .i64 7)])) (.node (.lt (.int 9999) (.sub .i64 (.at 5) (.int 1))) (.leaf (.tup [(.agg [(.int .i64 0), (.int .i64 0), (.int .i64 0), (.int .i64 0), (.int .i64 0), (.int .i64 0), (.bool false), (.str []), (.int .i64 0), (.bool false), (.int .i64 0)]), (.int .i64 7)])) (.leaf (.tup [(.agg [(.int .i64 1), (.xi .i64 (.sub .i64 (.at 5) (.int 1))), (.xi .i64 (.at 6)), (.xi .i64 (.at 7)), (.int .i64 0), (.int .i64 0), (.bool false), (.str []), (.int .i64 0), (.bool false), (.int .i64 0)]), (.int .i64 0)])))) (.node (.lt (.at 5) (.int (-9999))) (.leaf (.tup [(.agg [(.int .i64 0), (.int .i64 0), (.int .i64 0), (.int .i64 0), (.int .i64 0), (.int .i64 0), (.bool false), (.str []), (.int .i64 0), (.bool false), (.int .i64 0)]), (.int .i64 7)])) (.node (.lt (.int 9999) (.at 5)) (.leaf (.tup [(.agg [(.int .i64 0), (.int .i64 0), (.int .i64 0), (.int .i64 0), (.int .i64 0), (.int .i64 0), (.bool false), (.str []), (.int .i64 0), (.bool false), (.int .i64 0)]), (.int .i64 7)])) (.leaf (.tup [(.agg [(.int .i64 1), (.xi .i64 (.at 5)), (.xi .i64 (.at 6)), (.xi .i64 (.at 7)), (.int .i64 0), (.int .i64 0), (.bool false), (.str []), (.int .i64 0), (.bool false), (.int .i64 0)]), (.int .i64 0)]))))))))
def trOf2 : Tree := (.node (.lt (.rem (.at 1) (.int 86400)) (.int 0)) (.node (.eq (.at 14) (.int 0)) (.leaf (.tup [(.agg [(.int .i64 2), (.int .i64 0), (.int .i64 0), (.int .i64 0), (.xi .i64 (.quo .i64 (.add .i64 (.rem (.at 1) (.int 86400)) (.int 86400)) (.int 3600))), (.xi .i64 (.rem (.quo .i64 (.add .i64 (.rem (.at 1) (.int 86400)) (.int 86400)) (.int 60)) (.int 60))), (.xb (.at 11)), (.xs (.at 12)), (.xi .i64 (.at 13)), (.bool false), (.int .i64 0)]), (.int .i64 0)])) (.leaf (.tup [(.agg [(.int .i64 0), (.int .i64 0), (.int .i64 0), (.int .i64 0), (.int .i64 0), (.int .i64 0), (.bool false), (.str []), (.int .i64 0), (.bool false), (.int .i64 0)]), (.xi .i64 (.at 14))]))) (.node (.eq (.at 14) (.int 0)) (.leaf (.tup [(.agg [(.int .i64 2), (.int .i64 0), (.int .i64 0), (.int .i64 0), (.xi .i64 (.quo .i64 (.rem (.at 1) (.int 86400)) (.int 3600))), (.xi .i64 (.rem (.quo .i64 (.rem (.at 1) (.int 86400)) (.int 60)) (.int 60))), (.xb (.at 11)), (.xs (.at 12)), (.xi .i64 (.at 13)), (.bool false), (.int .i64 0)]), (.int .i64 0)])) (.leaf (.tup [(.agg [(.int .i64 0), (.int .i64 0), (.int .i64 0), (.int .i64 0), (.int .i64 0), (.int .i64 0), (.bool false), (.str []), (.int .i64 0), (.bool false), (.int .i64 0)]), (.xi .i64 (.at 14))]))))
def trOf3 : Tree := (.node (.lt (.rem (.at 1) (.int 86400)) (.int 0)) (.node (.lt (.sub .i64 (.quo .i64 (.at 1) (.int 86400)) (.int 1)) (.int (-4000000))) (.leaf (.tup [(.agg [(.int .i64 0), (.int .i64 0), (.int .i64 0), (.int .i64 0), (.int .i64 0), (.int .i64 0), (.bool false), (.str []), (.int .i64 0), (.bool false), (.int .i64 0)]), (.int .i64 7)])) (.node (.lt (.int 4000000) (.sub .i64 (.quo .i64 (.at 1) (.int 86400)) (.int 1))) (.leaf (.tup [(.agg [(.int .i64 0), (.int .i64 0), (.int .i64 0), (.int .i64 0), (.int .i64 0), (.int .i64 0), (.bool false), (.str []), (.int .i64 0), (.bool false), (.int .i64 0)]), (.int .i64 7)])) (.node (.lt (.at 5) (.int 1)) (.node (.lt (.sub .i64 (.at 5) (.int 1)) (.int (-9999))) (.leaf (.tup [(.agg [(.int .i64 0), (.int .i64 0), (.int .i64 0), (.int .i64 0), (.int .i64 0), (.int .i64 0), (.bool false), (.str []), (.int .i64 0), (.bool false), (.int .i64 0)]), (.int .i64 7)])) (.node (.lt (.int 9999) (.sub .i64 (.at 5) (.int 1))) (.leaf (.tup [(.agg [(.int .i64 0), (.int .i64 0), (.int .i64 0), (.int .i64 0), (.int .i64 0), (.int .i64 0), (.bool false), (.str []), (.int .i64 0), (.bool false), (.int .i64 0)]), (.int .i64 7)])) (.node (.eq (.at 14) (.int 0)) (.leaf (.tup [(.agg [(.int .i64 3), (.xi .i64 (.sub .i64 (.at 5) (.int 1))), (.xi .i64 (.at 6)), (.xi .i64 (.at 7)), (.xi .i64 (.quo .i64 (.add .i64 (.rem (.at 1) (.int 86400)) (.int 86400)) (.int 3600))), (.xi .i64 (.rem (.quo .i64 (.add .i64 (.rem (.at 1) (.int 86400)) (.int 86400)) (.int 60)) (.int 60))), (.xb (.at 11)), (.xs (.at 12)), (.xi .i64 (.at 13)), (.bool false), (.int .i64 0)]), (.int .i64 0)])) (.leaf (.tup [(.agg [(.int .i64 0), (.int .i64 0), (.int .i64 0), (.int .i64 0), (.int .i64 0), (.int .i64 0), (.bool false), (.str []), (.int .i64 0), (.bool false), (.int .i64 0)]), (.xi .i64 (.at 14))]))))) (.node (.lt (.at 5) (.int (-9999))) (.leaf (.tup [(.agg [(.int .i64 0), (.int .i64 0), (.int .i64 0), (.int .i64 0), (.int .i64 0), (.int .i64 0), (.bool false), (.str []), (.int .i64 0), (.bool false), (.int .i64 0)]), (.int .i64 7)])) (.node (.lt (.int 9999) (.at 5)) (.leaf (.tup [(.agg [(.int .i64 0), (.int .i64 0), (.int .i64 0), (.int .i64 0), (.int .i64 0), (.int .i64 0), (.bool false), (.str []), (.int .i64 0), (.bool false), (.int .i64 0)]), (.int .i64 7)])) (.node (.eq (.at 14) (.int 0)) (.leaf (.tup [(.agg [(.int .i64 3), (.xi .i64 (.at 5)), (.xi .i64 (.at 6)), (.xi .i64 (.at 7)), (.xi .i64 (.quo .i64 (.add .i64 (.rem (.at 1) (.int 86400)) (.int 86400)) (.int 3600))), (.xi .i64 (.rem (.quo .i64 (.add .i64 (.rem (.at 1) (.int 86400)) (.int 86400)) (.int 60)) (.int 60))), (.xb (.at 11)), (.xs (.at 12)), (.xi .i64 (.at 13)), (.bool false), (.int .i64 0)]), (.int .i64 0)])) (.leaf (.tup [(.agg [(.int .i64 0), (.int .i64 0), (.int .i64 0), (.int .i64 0), (.int .i64 0), (.int .i64 0), (.bool false), (.str []), (.int .i64 0), (.bool false), (.int .i64 0)]), (.xi .i64 (.at 14))])))))))) (.node (.lt (.quo .i64 (.at 1) (.int 86400)) (.int (-4000000))) (.leaf (.tup [(.agg [(.int .i64 0), (.int .i64 0), (.int .i64 0), (.int .i64 0), (.int .i64 0), (.int .i64 0), (.bool false), (.str []), (.int .i64 0), (.bool false), (.int .i64 0)]), (.int .i64 7)])) (.node (.lt (.int 4000000) (.quo .i64 (.at 1) (.int 86400))) (.leaf (.tup [(.agg [(.int .i64 0), (.int .i64 0), (.int .i64 0), (.int .i64 0), (.int .i64 0), (.int .i64 0), (.bool false), (.str []), (.int .i64 0), (.bool false), (.int .i64 0)]), (.int .i64 7)])) (.node (.lt (.at 5) (.int 1)) (.node (.lt (.sub .i64 (.at 5) (.int 1)) (.int (-9999))) (.leaf (.tup [(.agg [(.int .i64 0), (.int .i64 0), (.int .i64 0), (.int .i64 0), (.int .i64 0), (.int .i64 0), (.bool false), (.str []), (.int .i64 0), (.bool false), (.int .i64 0)]), (.int .i64 7)])) (.node (.lt (.int 9999) (.sub .i64 (.at 5) (.int 1))) (.leaf (.tup [(.agg [(.int .i64 0), (.int .i64 0), (.int .i64 0), (.int .i64 0), (.int .i64 0), (.int .i64 0), (.bool false), (.str []), (.int .i64 0), (.bool false), (.int .i64 0)]), (.int .i64 7)])) (.node (.eq (.at 14) (.int 0)) (.leaf (.tup [(.agg [(.int .i64 3), (.xi .i64 (.sub .i64 (.at 5) (.int 1))), (.xi .i64 (.at 6)), (.xi .i64 (.at 7)), (.xi .i64 (.quo .i64 (.rem (.at 1) (.int 86400)) (.int 3600))), (.xi .i64 (.rem (.quo .i64 (.rem (.at 1) (.int 86400)) (.int 60)) (.int 60))), (.xb (.at 11)), (.xs (.at 12)), (.xi .i64 (.at 13)), (.bool false), (.int .i64 0)]), (.int .i64 0)])) (.leaf (.tup [(.agg [(.int .i64 0), (.int .i64 0), (.int .i64 0), (.int .i64 0), (.int .i64 0), (.int .i64 0), (.bool false), (.str []), (.int .i64 0), (.bool false), (.int .i64 0)]), (.xi .i64 (.at 14))]))))) (.node (.lt (.at 5) (.int (-9999))) (.leaf (.tup [(.agg [(.int .i64 0), (.int .i64 0), (.int .i64 0), (.int .i64 0), (.int .i64 0), (.int .i64 0), (.bool false), (.str []), (.int .i64 0), (.bool false), (.int .i64 0)]), (.int .i64 7)])) (.node (.lt (.int 9999) (.at 5)) (.leaf (.tup [(.agg [(.int .i64 0), (.int .i64 0), (.int .i64 0), (.int .i64 0), (.int .i64 0), (.int .i64 0), (.bool false), (.str []), (.int .i64 0), (.bool false), (.int .i64 0)]), (.int .i64 7)])) (.node (.eq (.at 14) (.int 0)) (.leaf (.tup [(.agg [(.int .i64 3), (.xi .i64 (.at 5)), (.xi .i64 (.at 6)), (.xi .i64 (.at 7)), (.xi .i64 (.quo .i64 (.rem (.at 1) (.int 86400)) (.int 3600))), (.xi .i64 (.rem (.quo .i64 (.rem (.at 1) (.int 86400)) (.int 60)) (.int 60))), (.xb (.at 11)), (.xs (.at 12)), (.xi .i64 (.at 13)), (.bool false), (.int .i64 0)]), (.int .i64 0)])) (.leaf (.tup [(.agg [(.int .i64 0), (.int .i64 0), (.int .i64 0), (.int .i64 0), (.int .i64 0), (.int .i64 0), (.bool false), (.str []), (.int .i64 0), (.bool false), (.int .i64 0)]), (.xi .i64 (.at 14))])))))))))
def qX : X := .quo .i64 (.at 1) (.int 86400)
def rX : X := .rem (.at 1) (.int 86400)
def pofC : List CallX := [⟨85, [.xi .i64 qX], [(.lt rX (.int 0), false), (.lt qX (.int (-4000000)), false), (.lt (.int 4000000) qX, false)], .tup [xi 5, xi 6, xi 7]⟩, ⟨85, [.xi .i64 (.sub .i64 qX (.int 1))], [(.lt rX (.int 0), true), (.lt (.sub .i64 qX (.int 1)) (.int (-4000000)), false), (.lt (.int 4000000) (.sub .i64 qX (.int 1)), false)], .tup [xi 5, xi 6, xi 7]⟩,
 ⟨32, [.xi .i64 (.rem rX (.int 60))], [(.lt rX (.int 0), false)], deV 8⟩, ⟨32, [.xi .i64 (.rem (.add .i64 rX (.int 86400)) (.int 60))], [(.lt rX (.int 0), true)], deV 8⟩, ⟨86, [deV 8, deV 2], [], .tup [deV 11, xi 14]⟩]
noncomputable def ofE (T : Int) : List Value := ptL T ++ [.int .i64 (Mo.dateOf (Mo.dayOf T)).1, .int .i64 (Mo.dateOf (Mo.dayOf T)).2.1, .int .i64 (Mo.dateOf (Mo.dayOf T)).2.2, .bool false, .string (str (Dc.digs (Mo.restOf T % 60).natAbs)), .int .i64 0] ++ resL (Mo.secOf T) ++ [.int .i64 (Mo.dayOf T)]
theorem prun_of1 : chk (runTr Tryz.prog nG (fun _ => none) gd moT pofC 100 37 [it 1, ptV 1] h0) trOf1 [] = true := by decide +kernel
theorem prun_of2 : chk (runTr Tryz.prog nG (fun _ => none) gd moT pofC 100 37 [it 2, ptV 1] h0) trOf2 [] = true := by decide +kernel
theorem prun_of3 : chk (runTr Tryz.prog nG (fun _ => none) gd moT pofC 100 37 [it 3, ptV 1] h0) trOf3 [] = true := by decide +kernel
theorem q_ev (T M : Int) (hT : Small T) : qX.evI (envE (.int .i64 M :: ofE T)) = (T / Dc.U).tdiv 86400 /\ rX.evI (envE (.int .i64 M :: ofE T)) = (T / Dc.U).tmod 86400 := by
 obtain ⟨t0, t1⟩ := hT
 obtain ⟨h1, h2⟩ := Mo.tdiv_floor (T / Dc.U)
 refine ⟨?_, rfl⟩
 have e : qX.evI (envE (.int .i64 M :: ofE T)) = IntKind.i64.wrap ((T / Dc.U).tdiv 86400) := rfl
 rw [e]
 split at h1 <;> exact w64 (by omega) (by omega)
theorem pof_ok (T M : Int) (hT : Small T) : AllX Tryz.prog (envE (.int .i64 M :: ofE T)) (Vars M) pofC := by
 obtain ⟨eq, er⟩ := q_ev T M hT
 obtain ⟨f1, f2⟩ := Mo.tdiv_floor (T / Dc.U)
 have t0 := hT.1
 have t1 := hT.2
 have b1 : -86400 < (T / Dc.U).tmod 86400 /\ (T / Dc.U).tmod 86400 < 86400 := by
  have h2 := Int.tmod_lt_of_pos (T / Dc.U) (b := 86400) (by decide)
  have := Int.tmod_lt_of_pos (-(T / Dc.U)) (b := 86400) (by decide)
  rw [Int.neg_tmod] at this
  omega
 have key : ∀ (e : X) (v : Int), e.evI (envE (.int .i64 M :: ofE T)) = v -> ∀ L, V.dens L (envE (.int .i64 M :: ofE T)) [.xi .i64 e] = [.int .i64 v] := fun e v h L => by simp only [V.dens, V.den, h]
 refine ⟨⟨rfl, fk, fun hp L w hV => ?_⟩, ⟨rfl, fk, fun hp L w hV => ?_⟩, ⟨rfl, fk, fun hp L w hV => ?_⟩, ⟨rfl, fk, fun hp L w hV => ?_⟩, ⟨rfl, fk, fun _ L w hV => padd_is false (str (Dc.digs (Mo.restOf T % 60).natAbs)) 0 (Dc.frac (T % Dc.U)).1 (str (Dc.digs (Dc.frac (T % Dc.U)).2.1)) ((Dc.frac (T % Dc.U)).2.2 : Int) ?_ (digs_size60 (frac_p T)) (Mo.secOf T) rfl w hV⟩, trivial⟩
 ·have h1 : decide (rX.evI (envE (.int .i64 M :: ofE T)) < 0) = false := hp.1
  have h2 : decide (qX.evI (envE (.int .i64 M :: ofE T)) < -4000000) = false := hp.2.1
  have h3 : decide (4000000 < qX.evI (envE (.int .i64 M :: ofE T))) = false := hp.2.2.1
  rw [er] at h1
  rw [eq] at h2 h3
  have h1 := of_decide_eq_false h1
  have h2 := of_decide_eq_false h2
  have h3 := of_decide_eq_false h3
  rw [if_neg h1] at f1
  have e := key qX (Mo.dayOf T) (by rw [eq]; exact f1.symm) L
  show Calls _ _ (V.dens L (envE (.int .i64 M :: ofE T)) [.xi .i64 qX]).toArray w _
  rw [e]
  exact pdate_is (Mo.dayOf T) _ _ _ (Mo.dateOf_is _) (by unfold Mo.dayOf; omega) (by unfold Mo.dayOf; omega) w M hV
 ·have h1 : decide (rX.evI (envE (.int .i64 M :: ofE T)) < 0) = true := hp.1
  have e0 : (X.sub .i64 qX (.int 1)).evI (envE (.int .i64 M :: ofE T)) = IntKind.i64.wrap (qX.evI (envE (.int .i64 M :: ofE T)) - 1) := rfl
  have h2 : decide ((X.sub .i64 qX (.int 1)).evI (envE (.int .i64 M :: ofE T)) < -4000000) = false := hp.2.1
  have h3 : decide (4000000 < (X.sub .i64 qX (.int 1)).evI (envE (.int .i64 M :: ofE T))) = false := hp.2.2.1
  rw [er] at h1
  have h1 := of_decide_eq_true h1
  rw [if_pos h1] at f1
  have e1 : (X.sub .i64 qX (.int 1)).evI (envE (.int .i64 M :: ofE T)) = Mo.dayOf T := by
   rw [e0, eq, w64 (by omega) (by omega)]; exact f1.symm
  rw [e1] at h2 h3
  have h2 := of_decide_eq_false h2
  have h3 := of_decide_eq_false h3
  have e := key _ _ e1 L
  show Calls _ _ (V.dens L (envE (.int .i64 M :: ofE T)) [.xi .i64 (.sub .i64 qX (.int 1))]).toArray w _
  rw [e]
  exact pdate_is (Mo.dayOf T) _ _ _ (Mo.dateOf_is _) (by omega) (by omega) w M hV
 ·have h1 : decide (rX.evI (envE (.int .i64 M :: ofE T)) < 0) = false := hp.1
  rw [er] at h1
  have h1 := of_decide_eq_false h1
  rw [if_neg h1] at f2
  have e1 : (X.rem rX (.int 60)).evI (envE (.int .i64 M :: ofE T)) = Mo.restOf T % 60 := by
   have e0 : (X.rem rX (.int 60)).evI (envE (.int .i64 M :: ofE T)) = (rX.evI (envE (.int .i64 M :: ofE T))).tmod 60 := rfl
   rw [e0, er, Int.tmod_eq_emod_of_nonneg (by omega)]
   unfold Mo.restOf
   rw [f2]
  have e := key _ _ e1 L
  show Calls _ _ (V.dens L (envE (.int .i64 M :: ofE T)) [.xi .i64 (.rem rX (.int 60))]).toArray w _
  rw [e]
  have := pOf_any (Mo.restOf T % 60) (by unfold Mo.restOf; omega) (by unfold Mo.restOf; omega) w hV.pow
  rw [decide_eq_false (by unfold Mo.restOf; omega)] at this
  exact this
 ·have h1 : decide (rX.evI (envE (.int .i64 M :: ofE T)) < 0) = true := hp.1
  rw [er] at h1
  have h1 := of_decide_eq_true h1
  rw [if_pos h1] at f2
  have e1 : (X.rem (.add .i64 rX (.int 86400)) (.int 60)).evI (envE (.int .i64 M :: ofE T)) = Mo.restOf T % 60 := by
   have e0 : (X.rem (.add .i64 rX (.int 86400)) (.int 60)).evI (envE (.int .i64 M :: ofE T)) = (IntKind.i64.wrap (rX.evI (envE (.int .i64 M :: ofE T)) + 86400)).tmod 60 := rfl
   rw [e0, er, w64 (by omega) (by omega), Int.tmod_eq_emod_of_nonneg (by omega)]
   unfold Mo.restOf
   rw [f2]
  have e := key _ _ e1 L
  show Calls _ _ (V.dens L (envE (.int .i64 M :: ofE T)) [.xi .i64 (.rem (.add .i64 rX (.int 86400)) (.int 60))]).toArray w _
  rw [e]
  have := pOf_any (Mo.restOf T % 60) (by unfold Mo.restOf; omega) (by unfold Mo.restOf; omega) w hV.pow
  rw [decide_eq_false (by unfold Mo.restOf; omega)] at this
  exact this
 ·rw [str_size]
  have h : (Mo.restOf T % 60).natAbs < 10 ^ 2 := by unfold Mo.restOf; omega
  have := (Dc.digs_length (n := (Mo.restOf T % 60).natAbs) (k := 2) (by decide)).2 h
  omega
end Go.Proofs.YtckodhldimhbfaaGreatDoor
