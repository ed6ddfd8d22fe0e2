/-
  Part 28 of the proof: what functions return, and plain facts (Mrof Madd Madd2 Mnormal). Conditions: each theorem names its own.
-/
import Derived.Test.YtckodhldimhbfaaGreatDoorG27
set_option maxRecDepth 1000000
set_option maxHeartbeats 16000000
namespace Go.Proofs.YtckodhldimhbfaaGreatDoor
open Go Go.RowKit Go.Ex

def trRof1 : Tree := (.node (.lt (.at 15) (.int (-4000000))) (.leaf (.tup [(.agg [(.int .i64 0), (.int .i64 0), (.int .i64 0), (.int .i64 0), (.int .i64 0), (.int .i64 0), (.bool false), (.str []), (.int .i64 0), (.bool false), (.int .i64 0)]), (.int .i64 7)])) (.node (.lt (.int 4000000) (.at 15)) (.leaf (.tup [(.agg [(.int .i64 0), (.int .i64 0), (.int .i64 0), (.int .i64 0), (.int .i64 0), (.int .i64 0), (.bool false), (.str []), (.int .i64 0), (.bool false), (.int .i64 0)]), (.int .i64 7)])) (.node (.lt (.at 5) (.int 1)) (.node (.lt (.int 9999) (.sub .i64 (.at 5) (.int 1))) (.leaf (.tup [(.agg [(.int .i64 0), (.int .i64 0), (.int .i64 0), (.int .i64 0), (.int .i64 0), (.int .i64 0), (.bool false), (.str []), (.int .i64 0), (.bool false), (.int .i64 0)]), (.int .i64 7)])) (.node (.lt (.sub .i64 (.at 5) (.int 1)) (.int (-9999))) (.leaf (.tup [(.agg [(.int .i64 0), (.int .i64 0), (.int .i64 0), (.int .i64 0), (.int .i64 0), (.int .i64 0), (.bool false), (.str []), (.int .i64 0), (.bool false), (.int .i64 0)]), (.int .i64 7)])) (.leaf (.tup [(.agg [(.int .i64 1), (.xi .i64 (.sub .i64 (.at 5) (.int 1))), (.xi .i64 (.at 6)), (.xi .i64 (.at 7)), (.int .i64 0), (.int .i64 0), (.bool false), (.str []), (.int .i64 0), (.bool false), (.int .i64 0)]), (.int .i64 0)])))) (.node (.lt (.int 9999) (.at 5)) (.leaf (.tup [(.agg [(.int .i64 0), (.int .i64 0), (.int .i64 0), (.int .i64 0), (.int .i64 0), (.int .i64 0), (.bool false), (.str []), (.int .i64 0), (.bool false), (.int .i64 0)]), (.int .i64 7)])) (.node (.lt (.at 5) (.int (-9999))) (.leaf (.tup [(.agg [(.int .i64 0), (.int .i64 0), (.int .i64 0), (.int .i64 0), (.int .i64 0), (.int .i64 0), (.bool false), (.str []), (.int .i64 0), (.bool false), (.int .i64 0)]), (.int .i64 7)])) (.leaf (.tup [(.agg [(.int .i64 1), (.xi .i64 (.at 5)), (.xi .i64 (.at 6)), (.xi .i64 (.at 7)), (.int .i64 0), (.int .i64 0), (.bool false), (.str []), (.int .i64 0), (.bool false), (.int .i64 0)]), (.int .i64 0)])))))))
def trRof2 : Tree := (.node (.eq (.at 14) (.int 0)) (.leaf (.tup [(.agg [(.int .i64 2), (.int .i64 0), (.int .i64 0), (.int .i64 0), (.xi .i64 (.quo .i64 (.sub .i64 (.at 1) (.mul .i64 (.at 15) (.int 86400))) (.int 3600))), (.xi .i64 (.rem (.quo .i64 (.sub .i64 (.at 1) (.mul .i64 (.at 15) (.int 86400))) (.int 60)) (.int 60))), (.xb (.at 11)), (.xs (.at 12)), (.xi .i64 (.at 13)), (.bool false), (.int .i64 0)]), (.int .i64 0)])) (.leaf (.tup [(.agg [(.int .i64 0), (.int .i64 0), (.int .i64 0), (.int .i64 0), (.int .i64 0), (.int .i64 0), (.bool false), (.str []), (.int .i64 0), (.bool false), (.int .i64 0)]), (.xi .i64 (.at 14))])))
def trRof3 : Tree := (.node (.lt (.at 15) (.int (-4000000))) (.leaf (.tup [(.agg [(.int .i64 0), (.int .i64 0), (.int .i64 0), (.int .i64 0), (.int .i64 0), (.int .i64 0), (.bool false), (.str []), (.int .i64 0), (.bool false), (.int .i64 0)]), (.int .i64 7)])) (.node (.lt (.int 4000000) (.at 15)) (.leaf (.tup [(.agg [(.int .i64 0), (.int .i64 0), (.int .i64 0), (.int .i64 0), (.int .i64 0), (.int .i64 0), (.bool false), (.str []), (.int .i64 0), (.bool false), (.int .i64 0)]), (.int .i64 7)])) (.node (.lt (.at 5) (.int 1)) (.node (.lt (.int 9999) (.sub .i64 (.at 5) (.int 1))) (.leaf (.tup [(.agg [(.int .i64 0), (.int .i64 0), (.int .i64 0), (.int .i64 0), (.int .i64 0), (.int .i64 0), (.bool false), (.str []), (.int .i64 0), (.bool false), (.int .i64 0)]), (.int .i64 7)])) (.node (.lt (.sub .i64 (.at 5) (.int 1)) (.int (-9999))) (.leaf (.tup [(.agg [(.int .i64 0), (.int .i64 0), (.int .i64 0), (.int .i64 0), (.int .i64 0), (.int .i64 0), (.bool false), (.str []), (.int .i64 0), (.bool false), (.int .i64 0)]), (.int .i64 7)])) (.node (.eq (.at 14) (.int 0)) (.leaf (.tup [(.agg [(.int .i64 3), (.xi .i64 (.sub .i64 (.at 5) (.int 1))), (.xi .i64 (.at 6)), (.xi .i64 (.at 7)), (.xi .i64 (.quo .i64 (.sub .i64 (.at 1) (.mul .i64 (.at 15) (.int 86400))) (.int 3600))), (.xi .i64 (.rem (.quo .i64 (.sub .i64 (.at 1) (.mul .i64 (.at 15) (.int 86400))) (.int 60)) (.int 60))), (.xb (.at 11)), (.xs (.at 12)), (.xi .i64 (.at 13)), (.bool false), (.int .i64 0)]), (.int .i64 0)])) (.leaf (.tup [(.agg [(.int .i64 0), (.int .i64 0), (.int .i64 0), (.int .i64 0), (.int .i64 0), (.int .i64 0), (.bool false), (.str []), (.int .i64 0), (.bool false), (.int .i64 0)]), (.xi .i64 (.at 14))]))))) (.node (.lt (.int 9999) (.at 5)) (.leaf (.tup [(.agg [(.int .i64 0), (.int .i64 0), (.int .i64 0), (.int .i64 0), (.int .i64 0), (.int .i64 0), (.bool false), (.str []), (.int .i64 0), (.bool false), (.int .i64 0)]), (.int .i64 7)])) (.node (.lt (.at 5) (.int (-9999))) (.leaf (.tup [(.agg [(.int .i64 0), (.int .i64 0), (.int .i64 0), (.int .i64 0), (.int .i64 0), (.int .i64 0), (.bool false), (.str []), (.int .i64 0), (.bool false), (.int .i64 0)]), (.int .i64 7)])) (.node (.eq (.at 14) (.int 0)) (.leaf (.tup [(.agg [(.int .i64 3), (.xi .i64 (.at 5)), (.xi .i64 (.at 6)), (.xi .i64 (.at 7)), (.xi .i64 (.quo .i64 (.sub .i64 (.at 1) (.mul .i64 (.at 15) (.int 86400))) (.int 3600))), (.xi .i64 (.rem (.quo .i64 (.sub .i64 (.at 1) (.mul .i64 (.at 15) (.int 86400))) (.int 60)) (.int 60))), (.xb (.at 11)), (.xs (.at 12)), (.xi .i64 (.at 13)), (.bool false), (.int .i64 0)]), (.int .i64 0)])) (.leaf (.tup [(.agg [(.int .i64 0), (.int .i64 0), (.int .i64 0), (.int .i64 0), (.int .i64 0), (.int .i64 0), (.bool false), (.str []), (.int .i64 0), (.bool false), (.int .i64 0)]), (.xi .i64 (.at 14))]))))))))
def reX : X := .sub .i64 (.at 1) (.mul .i64 (.at 15) (.int 86400))
def rofC : List CallX := [⟨92, [xi 1], [], xi 15⟩, ⟨93, [xi 15], [(.lt (.at 15) (.int (-4000000)), false), (.lt (.int 4000000) (.at 15), false)], .tup [xi 5, xi 6, xi 7]⟩, ⟨69, [.xi .i64 (.rem reX (.int 60))], [], deV 8⟩, ⟨94, [deV 8, deV 2], [], .tup [deV 11, xi 14]⟩]
theorem rrun_of1 : chk (runTr Tryz.prog nG (fun _ => none) gd moT rofC 100 46 [it 1, ptV 1] h0) trRof1 [] = true := by decide +kernel
theorem rrun_of2 : chk (runTr Tryz.prog nG (fun _ => none) gd moT rofC 100 46 [it 2, ptV 1] h0) trRof2 [] = true := by decide +kernel
theorem rrun_of3 : chk (runTr Tryz.prog nG (fun _ => none) gd moT rofC 100 46 [it 3, ptV 1] h0) trRof3 [] = true := by decide +kernel
theorem re_ev (T M : Int) (hT : Small T) : reX.evI (envE (.int .i64 M :: ofE T)) = Mo.restOf T := by
 have t0 := hT.1
 have t1 := hT.2
 have e : reX.evI (envE (.int .i64 M :: ofE T)) = IntKind.i64.wrap (T / Dc.U - IntKind.i64.wrap (Mo.dayOf T * 86400)) := rfl
 unfold Mo.dayOf Mo.restOf at *
 rw [e, w64 (n := T / Dc.U / 86400 * 86400) (by omega) (by omega), w64 (by omega) (by omega)]
 omega
theorem rof_ok (T M : Int) (hT : Small T) : AllX Tryz.prog (envE (.int .i64 M :: ofE T)) (Vars M) rofC := by
 have t0 := hT.1
 have t1 := hT.2
 refine ⟨⟨rfl, fk, fun hp L w hV => rdaily_is (T / Dc.U) (by omega) (by omega) w M hV⟩, ⟨rfl, fk, fun hp L w hV => ?_⟩, ⟨rfl, fk, fun hp L w hV => ?_⟩, ⟨rfl, fk, fun _ L w hV => radd_is false (str (Dc.digs (Mo.restOf T % 60).natAbs)) 0 (Dc.frac (T % Dc.U)).1 (str (Dc.digs (Dc.frac (T % Dc.U)).2.1)) ((Dc.frac (T % Dc.U)).2.2 : Int) ?_ (digs_size60 (frac_p T)) (Mo.secOf T) rfl w⟩, trivial⟩
 ·have h2 : decide (Mo.dayOf T < -4000000) = false := hp.1
  have h3 : decide (4000000 < Mo.dayOf T) = false := hp.2.1
  have h2 := of_decide_eq_false h2
  have h3 := of_decide_eq_false h3
  exact rdate_is (Mo.dayOf T) _ _ _ (Mo.dateOf_is _) (by omega) (by omega) w M hV
 ·have e1 : (X.rem reX (.int 60)).evI (envE (.int .i64 M :: ofE T)) = Mo.restOf T % 60 := by
   have e0 : (X.rem reX (.int 60)).evI (envE (.int .i64 M :: ofE T)) = (reX.evI (envE (.int .i64 M :: ofE T))).tmod 60 := rfl
   rw [e0, re_ev T M hT, Int.tmod_eq_emod_of_nonneg (by unfold Mo.restOf; omega)]
  have e : V.dens L (envE (.int .i64 M :: ofE T)) [.xi .i64 (.rem reX (.int 60))] = [.int .i64 (Mo.restOf T % 60)] := by simp only [V.dens, V.den, e1]
  show Calls _ _ (V.dens L (envE (.int .i64 M :: ofE T)) [.xi .i64 (.rem reX (.int 60))]).toArray w _
  rw [e]
  have := rsmall_is (Mo.restOf T % 60) (by unfold Mo.restOf; omega) (by unfold Mo.restOf; omega) w M hV
  rw [decide_eq_false (by unfold Mo.restOf; omega)] at this
  exact this
 ·rw [str_size]
  have h : (Mo.restOf T % 60).natAbs < 10 ^ 2 := by unfold Mo.restOf; omega
  have := (Dc.digs_length (n := (Mo.restOf T % 60).natAbs) (k := 2) (by decide)).2 h
  omega
theorem rof1_at (T M : Int) (_hT : Small T) : (trRof1.at (envE (.int .i64 M :: ofE T))).den L0 (envE (.int .i64 M :: ofE T)) = ofV 1 T := by
 have far := ofV_far (k := 1) (T := T) (by decide)
 have good := ofV_good (k := 1) (T := T)
 generalize hE : envE (.int .i64 M :: ofE T) = E at *
 have e15 : E 15 = .int .i64 (Mo.dayOf T) := by rw [<- hE]; rfl
 have e5 : E 5 = .int .i64 (Mo.dateOf (Mo.dayOf T)).1 := by rw [<- hE]; rfl
 have e6 : E 6 = .int .i64 (Mo.dateOf (Mo.dayOf T)).2.1 := by rw [<- hE]; rfl
 have e7 : E 7 = .int .i64 (Mo.dateOf (Mo.dayOf T)).2.2 := by rw [<- hE]; rfl
 clear hE
 have hC : ((Mo.dateOf (Mo.dayOf T)).1 < 1 /\ Mo.called (Mo.dateOf (Mo.dayOf T)).1 = (Mo.dateOf (Mo.dayOf T)).1 - 1) \/ (¬ (Mo.dateOf (Mo.dayOf T)).1 < 1 /\ Mo.called (Mo.dateOf (Mo.dayOf T)).1 = (Mo.dateOf (Mo.dayOf T)).1) := by
  unfold Mo.called
  by_cases h : (Mo.dateOf (Mo.dayOf T)).1 < 1
  ·rw [if_pos h]; exact .inl ⟨h, rfl⟩
  ·rw [if_neg h]; exact .inr ⟨h, rfl⟩
 have hY : -4000000 <= Mo.dayOf T -> Mo.dayOf T <= 4000000 -> -12000 <= (Mo.dateOf (Mo.dayOf T)).1 /\ (Mo.dateOf (Mo.dayOf T)).1 <= 12000 := fun a b => Mo.dateOf_bd a b
 simp only [trRof1, Tree.at, X.evB, X.evI, e15, e5, Bool.cond_eq_ite, decide_eq_true_eq]
 have hw : IntKind.i64.wrap ((Mo.dateOf (Mo.dayOf T)).1 - 1) = ((Mo.dateOf (Mo.dayOf T)).1 - 1 + 9223372036854775808) % 18446744073709551616 - 9223372036854775808 := IntKind.wrap_i64 _
 obtain ⟨z, hz⟩ : ∃ z, IntKind.i64.wrap ((Mo.dateOf (Mo.dayOf T)).1 - 1) = z := ⟨_, rfl⟩
 rw [hz] at hw
 simp only [hz]
 repeat' (refine den_ite (fun h => ?_) (fun h => ?_))
 all_goals first
  | (rw [far (by omega)]; rfl)
  | (rw [good (fun _ => by omega) (fun h => by omega)]; simp only [V.den, V.dens, X.evI, e5, e6, e7, hz]; rw [show Mo.called (Mo.dateOf (Mo.dayOf T)).1 = z by omega]; rfl)
  | (rw [good (fun _ => by omega) (fun h => by omega)]; simp only [V.den, V.dens, X.evI, e5, e6, e7]; rw [show Mo.called (Mo.dateOf (Mo.dayOf T)).1 = (Mo.dateOf (Mo.dayOf T)).1 by omega]; rfl)
theorem rof2_at (T M : Int) (hT : Small T) : (trRof2.at (envE (.int .i64 M :: ofE T))).den L0 (envE (.int .i64 M :: ofE T)) = ofV 2 T := by
 have sec := ofV_sec (k := 2) (T := T) (by decide)
 have good := ofV_good (k := 2) (T := T)
 have er := re_ev T M hT
 have hA : IntKind.i64.wrap ((Mo.restOf T).tdiv 3600) = Mo.restOf T / 3600 /\ (IntKind.i64.wrap ((Mo.restOf T).tdiv 60)).tmod 60 = Mo.restOf T / 60 % 60 := by
  have h0 : 0 <= Mo.restOf T /\ Mo.restOf T < 86400 := by unfold Mo.restOf; omega
  rw [Int.tdiv_eq_ediv_of_nonneg (by omega), Int.tdiv_eq_ediv_of_nonneg (by omega), w64 (n := Mo.restOf T / 3600) (by omega) (by omega), w64 (n := Mo.restOf T / 60) (by omega) (by omega), Int.tmod_eq_emod_of_nonneg (by omega)]
  exact ⟨rfl, rfl⟩
 generalize hE : envE (.int .i64 M :: ofE T) = E at *
 have er : IntKind.i64.wrap ((X.at 1).evI E - IntKind.i64.wrap ((X.at 15).evI E * 86400)) = Mo.restOf T := er
 have e1 : E 1 = .int .i64 (T / Dc.U) := by rw [<- hE]; rfl
 have e15 : E 15 = .int .i64 (Mo.dayOf T) := by rw [<- hE]; rfl
 have e11 : E 11 = .bool (Mo.secOf T).n := by rw [<- hE]; rfl
 have e12 : E 12 = .string (Mo.secOf T).s := by rw [<- hE]; rfl
 have e13 : E 13 = .int .i64 (Mo.secOf T).S := by rw [<- hE]; rfl
 have e14 : E 14 = .int .i64 (Mo.secOf T).k := by rw [<- hE]; rfl
 simp only [X.evI, e1, e15] at er
 clear hE
 simp only [trRof2, Tree.at, X.evB, X.evI, e14, Bool.cond_eq_ite, decide_eq_true_eq]
 repeat' (refine den_ite (fun h => ?_) (fun h => ?_))
 all_goals first
  | (rw [sec (fun _ => by omega) (by omega)]; simp only [V.den, V.dens, X.evI, e14]; rfl)
  | (rw [good (fun _ => by omega) (fun h => by omega)]; simp only [V.den, V.dens, X.evI, X.evB, X.evS, e1, e15, e11, e12, e13, er]; rw [hA.1, hA.2]; rfl)
theorem rof3_at (T M : Int) (hT : Small T) : (trRof3.at (envE (.int .i64 M :: ofE T))).den L0 (envE (.int .i64 M :: ofE T)) = ofV 3 T := by
 have far := ofV_far (k := 3) (T := T) (by decide)
 have sec := ofV_sec (k := 3) (T := T) (by decide)
 have good := ofV_good (k := 3) (T := T)
 have er := re_ev T M hT
 have hA : IntKind.i64.wrap ((Mo.restOf T).tdiv 3600) = Mo.restOf T / 3600 /\ (IntKind.i64.wrap ((Mo.restOf T).tdiv 60)).tmod 60 = Mo.restOf T / 60 % 60 := by
  have h0 : 0 <= Mo.restOf T /\ Mo.restOf T < 86400 := by unfold Mo.restOf; omega
  rw [Int.tdiv_eq_ediv_of_nonneg (by omega), Int.tdiv_eq_ediv_of_nonneg (by omega), w64 (n := Mo.restOf T / 3600) (by omega) (by omega), w64 (n := Mo.restOf T / 60) (by omega) (by omega), Int.tmod_eq_emod_of_nonneg (by omega)]
  exact ⟨rfl, rfl⟩
 generalize hE : envE (.int .i64 M :: ofE T) = E at *
 have er : IntKind.i64.wrap ((X.at 1).evI E - IntKind.i64.wrap ((X.at 15).evI E * 86400)) = Mo.restOf T := er
 have e1 : E 1 = .int .i64 (T / Dc.U) := by rw [<- hE]; rfl
 have e15 : E 15 = .int .i64 (Mo.dayOf T) := by rw [<- hE]; rfl
 have e5 : E 5 = .int .i64 (Mo.dateOf (Mo.dayOf T)).1 := by rw [<- hE]; rfl
 have e6 : E 6 = .int .i64 (Mo.dateOf (Mo.dayOf T)).2.1 := by rw [<- hE]; rfl
 have e7 : E 7 = .int .i64 (Mo.dateOf (Mo.dayOf T)).2.2 := by rw [<- hE]; rfl
 have e11 : E 11 = .bool (Mo.secOf T).n := by rw [<- hE]; rfl
 have e12 : E 12 = .string (Mo.secOf T).s := by rw [<- hE]; rfl
 have e13 : E 13 = .int .i64 (Mo.secOf T).S := by rw [<- hE]; rfl
 have e14 : E 14 = .int .i64 (Mo.secOf T).k := by rw [<- hE]; rfl
 simp only [X.evI, e1, e15] at er
 clear hE
 have hC : ((Mo.dateOf (Mo.dayOf T)).1 < 1 /\ Mo.called (Mo.dateOf (Mo.dayOf T)).1 = (Mo.dateOf (Mo.dayOf T)).1 - 1) \/ (¬ (Mo.dateOf (Mo.dayOf T)).1 < 1 /\ Mo.called (Mo.dateOf (Mo.dayOf T)).1 = (Mo.dateOf (Mo.dayOf T)).1) := by
  unfold Mo.called
  by_cases h : (Mo.dateOf (Mo.dayOf T)).1 < 1
  ·rw [if_pos h]; exact .inl ⟨h, rfl⟩
  ·rw [if_neg h]; exact .inr ⟨h, rfl⟩
 have hY : -4000000 <= Mo.dayOf T -> Mo.dayOf T <= 4000000 -> -12000 <= (Mo.dateOf (Mo.dayOf T)).1 /\ (Mo.dateOf (Mo.dayOf T)).1 <= 12000 := fun a b => Mo.dateOf_bd a b
 simp only [trRof3, Tree.at, X.evB, X.evI, e15, e5, e14, Bool.cond_eq_ite, decide_eq_true_eq]
 have hw : IntKind.i64.wrap ((Mo.dateOf (Mo.dayOf T)).1 - 1) = ((Mo.dateOf (Mo.dayOf T)).1 - 1 + 9223372036854775808) % 18446744073709551616 - 9223372036854775808 := IntKind.wrap_i64 _
 obtain ⟨z, hz⟩ : ∃ z, IntKind.i64.wrap ((Mo.dateOf (Mo.dayOf T)).1 - 1) = z := ⟨_, rfl⟩
 rw [hz] at hw
 simp only [hz]
 repeat' (refine den_ite (fun h => ?_) (fun h => ?_))
 all_goals first
  | (rw [far (by omega)]; rfl)
  | (rw [sec (fun _ => by omega) (by omega)]; simp only [V.den, V.dens, X.evI, e14]; rfl)
  | (rw [good (fun _ => by omega) (fun h => by omega)]; simp only [V.den, V.dens, X.evI, X.evB, X.evS, e5, e6, e7, e1, e15, e11, e12, e13, hz, er]; rw [hA.1, hA.2]; rw [show Mo.called (Mo.dateOf (Mo.dayOf T)).1 = z by omega]; rfl)
  | (rw [good (fun _ => by omega) (fun h => by omega)]; simp only [V.den, V.dens, X.evI, X.evB, X.evS, e5, e6, e7, e1, e15, e11, e12, e13, er]; rw [hA.1, hA.2]; rw [show Mo.called (Mo.dateOf (Mo.dayOf T)).1 = (Mo.dateOf (Mo.dayOf T)).1 by omega]; rfl)
theorem rof_m (k T : Int) (hk : k = 1 \/ k = 2 \/ k = 3) (hT : Small T) (w : World) (M : Int) (hV : Vars M w) : Calls Tryz.prog 46 #[.int .i64 k, .agg (ptL T).toArray] w fun e w' => e = .returned (ofV k T) /\ Below w.heap.size w w' := by
 rcases hk with rfl | rfl | rfl
 ·have h := tree_run (env := ofE T) rrun_of1 (rof_ok T M hT) rfl trivial rfl hV
  rw [rof1_at T M hT] at h
  exact h
 ·have h := tree_run (env := ofE T) rrun_of2 (rof_ok T M hT) rfl trivial rfl hV
  rw [rof2_at T M hT] at h
  exact h
 ·have h := tree_run (env := ofE T) rrun_of3 (rof_ok T M hT) rfl trivial rfl hV
  rw [rof3_at T M hT] at h
  exact h
end Go.Proofs.YtckodhldimhbfaaGreatDoor
namespace Go.Proofs.YtckodhldimhbfaaGreatDoor
open Go Go.RowKit Go.Ex
namespace Mo
def mN (x : Mo) (u : Int) : Int := 12 * (counted x.y + 40000) + x.m - 1 + u
def mY (x : Mo) (u : Int) : Int := mN x u / 12 - 40000
def later (x : Mo) (u : Int) : Mo := if x.k = 2 then x else ⟨x.k, called (mY x u), mN x u % 12 + 1, min x.d (dim (mY x u) (mN x u % 12 + 1)), x.h, x.i, x.n, x.s, x.S, x.z, x.o⟩
def trill : ByteArray := ⟨#[49, 48, 48, 48, 48, 48, 48, 48, 48, 48, 48, 48, 48]⟩
noncomputable def sumT (x : Mo) (u : Int) (n : Bool) (s : ByteArray) (S : Int) : Int := (later x u).TL + Dc.at_ 60 (rawD n s S)
noncomputable def addM (x : Mo) (u : Int) (n : Bool) (s : ByteArray) (S : Int) : Mo × Int :=
 if okB x = false \/ ckI n s S ≠ 0 \/ u < -300000 \/ 300000 < u \/ (x.k = 2 /\ u ≠ 0) then (none, 2)
 else if 0 <= (cmpR false s S false trill 0).1 then (none, 7)
 else if x.k ≠ 2 /\ ((later x u).y < -9999 \/ 9999 < (later x u).y) then (none, 7)
 else if (ofM x.k (sumT x u n s S)).2 ≠ 0 then (none, (ofM x.k (sumT x u n s S)).2)
 else ({ (ofM x.k (sumT x u n s S)).1 with z := x.z, o := x.o }, 0)
theorem later_ok {x : Mo} (h : Ok x) {u : Int} (_h1 : -300000 <= u) (_h2 : u <= 300000) (hy : x.k ≠ 2 -> -9999 <= (later x u).y /\ (later x u).y <= 9999) : Ok (later x u) := by
 by_cases hk : x.k = 2
 ·unfold later; rw [if_pos hk]; exact h
 ·have hd := ok_date h hk
  have hb := cnt_bd hd
  obtain ⟨a1, a2, a3, a4, a5, a6, a7⟩ := hd
  have hy := hy hk
  obtain ⟨b1, b2, b3, b4, b5, b6⟩ := h
  have q := dim_bd (mY x u) (mN x u % 12 + 1)
  unfold later at hy ⊢
  rw [if_neg hk] at hy ⊢
  refine ⟨b1, b2, b3, b4, ?_, ?_⟩
  ·rw [if_neg hk]
   refine ⟨?_, hy.1, hy.2, ?_, ?_, ?_, ?_⟩
   ·show called _ ≠ 0
    unfold called; split <;> omega
   ·show 1 <= mN x u % 12 + 1
    omega
   ·show mN x u % 12 + 1 <= 12
    omega
   ·show 1 <= min x.d _
    omega
   ·show min x.d (dim (mY x u) (mN x u % 12 + 1)) <= dim (counted (called (mY x u))) (mN x u % 12 + 1)
    rw [counted_called]
    exact Int.min_le_right _ _
  ·exact b6
end Mo
theorem trill_raw : rawD false Mo.trill 0 = (false, 1000000000000, 0) := by decide +kernel
theorem sec_add {n : Bool} {s : ByteArray} {S : Int} (h1 : ckI n s S = 0) (h2 : (cmpR false s S false Mo.trill 0).1 < 0) : Sec n s S (Dc.at_ 60 (rawD n s S)) /\ -1000000000000 <= Dc.at_ 60 (rawD n s S) / Dc.U /\ Dc.at_ 60 (rawD n s S) / Dc.U <= 1000000000000 := by
 have hk : okB n s S = true := by
  unfold ckI at h1
  cases h : okB n s S with
  | true => rfl
  | false => rw [h] at h1; exact absurd h1 (by decide)
 have ht : okB false Mo.trill 0 = true := by decide +kernel
 have hf : okB false s S = true := by
  cases h : okB false s S with
  | true => rfl
  | false => unfold cmpR at h2; rw [if_neg (by rw [h]; exact fun q => by cases q.1)] at h2; exact absurd h2 (by decide)
 unfold cmpR at h2
 rw [if_pos ⟨hf, ht⟩] at h2
 have h3 : Dc.cmpD (rawD false s S) (rawD false Mo.trill 0) < 0 := h2
 have h6 : Dc.ok (false, 1000000000000, 0) := Dc.int_ok (k := 1000000000000) (by decide)
 rw [trill_raw, Dc.cmp60 (okB_ok hf).can h6, show Dc.at_ 60 (false, 1000000000000, 0) = 1000000000000 * Dc.U from rfl] at h3
 have h4 : Dc.at_ 60 (rawD false s S) < 1000000000000 * Dc.U := by
  generalize hA : Dc.at_ 60 (rawD false s S) = A at h3 ⊢
  generalize hB : 1000000000000 * Dc.U = B at h3 ⊢
  rcases Int.lt_or_le A B with c | c
  ·exact c
  ·rw [if_neg (by omega)] at h3
   split at h3 <;> omega
 have e : (Dc.at_ 60 (rawD n s S)).natAbs = (Dc.at_ 60 (rawD false s S)).natAbs := by rw [Dc.at_natAbs, Dc.at_natAbs]; rfl
 have h5 : 0 <= Dc.at_ 60 (rawD false s S) := by
  rcases Int.lt_or_le (Dc.at_ 60 (rawD false s S)) 0 with c | c
  ·have q := (Dc.at_neg (K := 60) (okB_ok hf).can).1 c
   cases q
  ·exact c
 have hU := Dc.U_pos
 have b := Dc.emod_bd (Dc.at_ 60 (rawD n s S))
 have r := Dc.parts (Dc.at_ 60 (rawD n s S))
 have q1 : Dc.at_ 60 (rawD n s S) / Dc.U < 1000000000000 := Int.ediv_lt_of_lt_mul hU (by omega)
 have q2 : -1000000000000 <= Dc.at_ 60 (rawD n s S) / Dc.U := (Int.le_ediv_iff_mul_le hU).2 (by omega)
 exact ⟨⟨hk, rfl, ⟨by omega, by omega⟩⟩, by omega, by omega⟩
end Go.Proofs.YtckodhldimhbfaaGreatDoor
namespace Go.Proofs.YtckodhldimhbfaaGreatDoor
open Go Go.RowKit Go.Ex

def Mo.kd (x : Mo) (k : Int) : Mo := ⟨k, x.y, x.m, x.d, x.h, x.i, x.n, x.s, x.S, x.z, x.o⟩
theorem Mo.kd_eq {x : Mo} {k : Int} (h : x.k = k) : x.kd k = x := by subst h; rfl
def tril : V := .agg [.bool false, .str [49, 48, 48, 48, 48, 48, 48, 48, 48, 48, 48, 48, 48], it 0]
noncomputable def addE (c : Value) (x : Mo) (u : Int) (n : Bool) (s : ByteArray) (S : Int) : List Value := x.list ++ [.int .i64 u, .bool n, .string s, .int .i64 S, c, .int .i64 (ckI n s S), .int .i64 (cmpR false s S false Mo.trill 0).1, .int .i64 (cmpR false s S false Mo.trill 0).2, .int .i64 (Mo.counted x.y)] ++ ptL (Dc.at_ 60 (rawD n s S)) ++ ptL (Mo.later x u).TL ++ ptL (Mo.sumT x u n s S) ++ (Mo.ofM x.k (Mo.sumT x u n s S)).1.list ++ [.int .i64 (Mo.ofM x.k (Mo.sumT x u n s S)).2, .int .i64 (Mo.dim (Mo.mY x u) (Mo.mN x u % 12 + 1))]
def zE (e : V) : V := .tup [.agg [it 0, it 0, it 0, it 0, it 0, it 0, .bool false, .str [], it 0, .bool false, it 0], e]
def adL : V := .tup [.agg [xi 33, xi 34, xi 35, xi 36, xi 37, xi 38, xb 39, xs 40, xi 41, xb 10, xi 11], it 0]
def adG : Tree := .node (.eq (.at 44) (.int 0)) (.leaf adL) (.leaf (zE (xi 44)))
def adY (r : Bool) (y : X) : Tree := bif r then .node (.lt (.int 9999) y) (.leaf (zE (it 7))) (.node (.lt y (.int (-9999))) (.leaf (zE (it 7))) adG) else .node (.lt y (.int (-9999))) (.leaf (zE (it 7))) (.node (.lt (.int 9999) y) (.leaf (zE (it 7))) adG)
def adU (ok : X) (t : Tree) : Tree := .node ok (.node (.eq (.at 17) (.int 0)) (.node (.lt (.at 12) (.int (-300000))) (.leaf (zE (it 2))) (.node (.lt (.int 300000) (.at 12)) (.leaf (zE (it 2))) t)) (.leaf (zE (it 2)))) (.leaf (zE (it 2)))
def yX (N : X) : X := .sub .i64 (.quo .i64 N (.int 12)) (.int 40000)
def mX (N : X) : X := .add .i64 (.rem N (.int 12)) (.int 1)
def adT1 (r : Bool) (ok N : X) : Tree := adU ok (.node (.lt (.at 18) (.int 0)) (.node (.lt (yX N) (.int 1)) (adY r (.sub .i64 (yX N) (.int 1))) (adY r (yX N))) (.leaf (zE (it 7))))
def adT2 (ok : X) : Tree := adU ok (.node (.eq (.at 12) (.int 0)) (.node (.lt (.at 18) (.int 0)) adG (.leaf (zE (it 7)))) (.leaf (zE (it 2))))
def okA (ok : X) : Fx := [(ok, true), (.eq (.at 17) (.int 0), true), (.lt (.at 18) (.int 0), true)]
def okU (ok : X) : Fx := okA ok ++ [(.lt (.at 12) (.int (-300000)), false), (.lt (.int 300000) (.at 12), false)]
def okY (ok p y : X) (b : Bool) : Fx := okU ok ++ [(.lt p (.int 1), b), (.lt y (.int (-9999)), false), (.lt (.int 9999) y, false)]
def chV (k : Int) (y m : X) : V := .agg [it k, .xi .i64 y, .xi .i64 m, .xi .i64 (.mn (.at 4) (.at 45)), xi 5, xi 6, xb 7, xs 8, xi 9, xb 10, xi 11]
section
variable {c : Value} {x : Mo} {u : Int} {n : Bool} {s : ByteArray} {S M : Int} {ok N : X}
theorem okA_of (hok : ok.evB (envE (.int .i64 M :: addE c x u n s S)) = Mo.okB x) (hp : Fx.Ok (envE (.int .i64 M :: addE c x u n s S)) (okA ok)) : Mo.Ok x /\ ckI n s S = 0 /\ (cmpR false s S false Mo.trill 0).1 < 0 :=
 ⟨okB_Ok (hok.symm.trans hp.1), of_decide_eq_true (show decide (ckI n s S = 0) = true from hp.2.1), of_decide_eq_true (show decide ((cmpR false s S false Mo.trill 0).1 < 0) = true from hp.2.2.1)⟩
theorem okU_of (hok : ok.evB (envE (.int .i64 M :: addE c x u n s S)) = Mo.okB x) (hp : Fx.Ok (envE (.int .i64 M :: addE c x u n s S)) (okU ok)) : Mo.Ok x /\ ckI n s S = 0 /\ (cmpR false s S false Mo.trill 0).1 < 0 /\ -300000 <= u /\ u <= 300000 := by
 have a := okA_of hok ⟨hp.1, hp.2.1, hp.2.2.1, trivial⟩
 have b1 := of_decide_eq_false (show decide (u < -300000) = false from hp.2.2.2.1)
 have b2 := of_decide_eq_false (show decide (300000 < u) = false from hp.2.2.2.2.1)
 exact ⟨a.1, a.2.1, a.2.2, by omega, by omega⟩
theorem sum_small {x : Mo} {u : Int} {n : Bool} {s : ByteArray} {S : Int} (h : Mo.Ok (Mo.later x u)) (h1 : ckI n s S = 0) (h2 : (cmpR false s S false Mo.trill 0).1 < 0) : Small (Mo.later x u).TL /\ Small (Dc.at_ 60 (rawD n s S)) /\ Small (Mo.sumT x u n s S) := by
 have a := TL_small h
 have b := (sec_add h1 h2).2
 have r1 := Dc.parts (Mo.later x u).TL
 have r2 := Dc.parts (Dc.at_ 60 (rawD n s S))
 have r3 := Dc.parts (Mo.sumT x u n s S)
 have b1 := Dc.emod_bd (Mo.later x u).TL
 have b2 := Dc.emod_bd (Dc.at_ 60 (rawD n s S))
 have hU := Dc.U_pos
 refine ⟨⟨by omega, by omega⟩, ⟨by omega, by omega⟩, ?_⟩
 unfold Mo.sumT
 have l := Int.le_ediv_of_mul_le hU (a := (Mo.later x u).TL / Dc.U + Dc.at_ 60 (rawD n s S) / Dc.U) (b := (Mo.later x u).TL + Dc.at_ 60 (rawD n s S)) (by rw [Int.add_mul]; have := Int.mul_comm ((Mo.later x u).TL / Dc.U) Dc.U; have := Int.mul_comm (Dc.at_ 60 (rawD n s S) / Dc.U) Dc.U; omega)
 have m := Int.ediv_lt_of_lt_mul hU (a := (Mo.later x u).TL + Dc.at_ 60 (rawD n s S)) (b := (Mo.later x u).TL / Dc.U + Dc.at_ 60 (rawD n s S) / Dc.U + 2) (by rw [Int.add_mul, Int.add_mul]; have := Int.mul_comm ((Mo.later x u).TL / Dc.U) Dc.U; have := Int.mul_comm (Dc.at_ 60 (rawD n s S) / Dc.U) Dc.U; omega)
 exact ⟨by omega, by omega⟩
theorem later2 {x : Mo} {u : Int} : Mo.later (x.kd 2) u = x.kd 2 := by unfold Mo.later; rw [if_pos (show (x.kd 2).k = 2 from rfl)]
theorem mN_bd (h : Mo.dateOk x) (h1 : -300000 <= u) (h2 : u <= 300000) : 0 <= Mo.mN x u /\ Mo.mN x u <= 10000000 := by
 have hc := cnt_bd h
 obtain ⟨q1, q2, q3, q4, q5, q6, q7⟩ := h
 unfold Mo.mN; omega
theorem yX_ev {E : Nat -> Value} (h : Mo.dateOk x) (h1 : -300000 <= u) (h2 : u <= 300000) (hN : N.evI E = Mo.mN x u) : (yX N).evI E = Mo.mY x u /\ (X.sub .i64 (yX N) (.int 1)).evI E = Mo.mY x u - 1 /\ (mX N).evI E = Mo.mN x u % 12 + 1 := by
 have b := mN_bd h h1 h2
 have q : Mo.mY x u = Mo.mN x u / 12 - 40000 := rfl
 have e2 : (yX N).evI E = Mo.mY x u := by
  have e : (yX N).evI E = IntKind.i64.wrap (IntKind.i64.wrap ((N.evI E).tdiv 12) - 40000) := rfl
  rw [e, hN, Int.tdiv_eq_ediv_of_nonneg b.1, w64 (n := Mo.mN x u / 12) (by omega) (by omega), w64 (by omega) (by omega)]
  rfl
 refine ⟨e2, ?_, ?_⟩
 ·have e : (X.sub .i64 (yX N) (.int 1)).evI E = IntKind.i64.wrap ((yX N).evI E - 1) := rfl
  rw [e, e2, w64 (by omega) (by omega)]
 ·have e : (mX N).evI E = IntKind.i64.wrap ((N.evI E).tmod 12 + 1) := rfl
  rw [e, hN, Int.tmod_eq_emod_of_nonneg b.1, w64 (by omega) (by omega)]
theorem okY_of (hk : x.k ≠ 2) (hok : ok.evB (envE (.int .i64 M :: addE c x u n s S)) = Mo.okB x) (hN : Mo.dateOk x -> -300000 <= u -> u <= 300000 -> N.evI (envE (.int .i64 M :: addE c x u n s S)) = Mo.mN x u) {y : X} {b : Bool} (hy : y = bif b then .sub .i64 (yX N) (.int 1) else yX N) (hp : Fx.Ok (envE (.int .i64 M :: addE c x u n s S)) (okY ok (yX N) y b)) :
  ckI n s S = 0 /\ (cmpR false s S false Mo.trill 0).1 < 0 /\ Mo.Ok (Mo.later x u) /\ y.evI (envE (.int .i64 M :: addE c x u n s S)) = Mo.called (Mo.mY x u) /\ (mX N).evI (envE (.int .i64 M :: addE c x u n s S)) = Mo.mN x u % 12 + 1 := by
 obtain ⟨a, a1, a2, a3, a4⟩ := okU_of hok ⟨hp.1, hp.2.1, hp.2.2.1, hp.2.2.2.1, hp.2.2.2.2.1, trivial⟩
 have hd := ok_date a hk
 obtain ⟨e1, e2, e3⟩ := yX_ev (N := N) hd a3 a4 (hN hd a3 a4)
 have t1 : decide ((yX N).evI (envE (.int .i64 M :: addE c x u n s S)) < 1) = b := hp.2.2.2.2.2.1
 have t2 := of_decide_eq_false (show decide (y.evI (envE (.int .i64 M :: addE c x u n s S)) < -9999) = false from hp.2.2.2.2.2.2.1)
 have t3 := of_decide_eq_false (show decide (9999 < y.evI (envE (.int .i64 M :: addE c x u n s S))) = false from hp.2.2.2.2.2.2.2.1)
 rw [e1] at t1
 have e : y.evI (envE (.int .i64 M :: addE c x u n s S)) = Mo.called (Mo.mY x u) := by
  cases b with
  | true => rw [hy, cond_true, e2]; unfold Mo.called; rw [if_pos (of_decide_eq_true t1)]
  | false => rw [hy, cond_false, e1]; unfold Mo.called; rw [if_neg (of_decide_eq_false t1)]
 refine ⟨a1, a2, Mo.later_ok a a3 a4 (fun _ => ?_), e, e3⟩
 have e5 : (Mo.later x u).y = Mo.called (Mo.mY x u) := by unfold Mo.later; rw [if_neg hk]
 rw [e5, <- e]; omega
theorem ch_den {k : Int} (hk : k ≠ 2) (L : Ex.Loc) {y m : X} (hy : y.evI (envE (.int .i64 M :: addE c (x.kd k) u n s S)) = Mo.called (Mo.mY (x.kd k) u)) (hm : m.evI (envE (.int .i64 M :: addE c (x.kd k) u n s S)) = Mo.mN (x.kd k) u % 12 + 1) : V.dens L (envE (.int .i64 M :: addE c (x.kd k) u n s S)) [chV k y m] = [(Mo.later (x.kd k) u).val] := by
 have e4 : X.evI (envE (.int .i64 M :: addE c (x.kd k) u n s S)) (.at 4) = x.d := rfl
 have e45 : X.evI (envE (.int .i64 M :: addE c (x.kd k) u n s S)) (.at 45) = Mo.dim ((x.kd k).mY u) ((x.kd k).mN u % 12 + 1) := rfl
 have em : X.evI (envE (.int .i64 M :: addE c (x.kd k) u n s S)) (.mn (.at 4) (.at 45)) = min x.d (Mo.dim ((x.kd k).mY u) ((x.kd k).mN u % 12 + 1)) := by
  have e0 : ∀ (E : Nat -> Value) (a b : X), X.evI E (.mn a b) = if b.evI E < a.evI E then b.evI E else a.evI E := fun _ _ _ => by simp only [X.evI]
  rw [e0, e4, e45]; split <;> omega
 have el : V.dens L (envE (.int .i64 M :: addE c (x.kd k) u n s S)) [xi 5, xi 6, xb 7, xs 8, xi 9, xb 10, xi 11] = [.int .i64 x.h, .int .i64 x.i, .bool x.n, .string x.s, .int .i64 x.S, .bool x.z, .int .i64 x.o] := rfl
 have e : (chV k y m).den L (envE (.int .i64 M :: addE c (x.kd k) u n s S)) = .agg (.int .i64 k :: .int .i64 (y.evI (envE (.int .i64 M :: addE c (x.kd k) u n s S))) :: .int .i64 (m.evI (envE (.int .i64 M :: addE c (x.kd k) u n s S))) :: .int .i64 (X.evI (envE (.int .i64 M :: addE c (x.kd k) u n s S)) (.mn (.at 4) (.at 45))) :: V.dens L (envE (.int .i64 M :: addE c (x.kd k) u n s S)) [xi 5, xi 6, xb 7, xs 8, xi 9, xb 10, xi 11]).toArray := by
  simp only [chV, it, V.den, V.dens]
 simp only [V.dens]
 rw [e, hy, hm, em, el]
 unfold Mo.later
 rw [if_neg (show ¬ (x.kd k).k = 2 from hk)]
 rfl
noncomputable def addV (x : Mo) (u : Int) (n : Bool) (s : ByteArray) (S : Int) : Value := .tuple #[(Mo.addM x u n s S).1.val, .int .i64 (Mo.addM x u n s S).2]
theorem addV_arg (h : Mo.okB x = false \/ ckI n s S ≠ 0 \/ u < -300000 \/ 300000 < u \/ (x.k = 2 /\ u ≠ 0)) : addV x u n s S = .tuple #[Mo.none.val, .int .i64 2] := by
 unfold addV Mo.addM; rw [if_pos h]
theorem addV_far (h : ¬ (Mo.okB x = false \/ ckI n s S ≠ 0 \/ u < -300000 \/ 300000 < u \/ (x.k = 2 /\ u ≠ 0))) (h2 : ¬ (cmpR false s S false Mo.trill 0).1 < 0 \/ (x.k ≠ 2 /\ ((Mo.later x u).y < -9999 \/ 9999 < (Mo.later x u).y))) : addV x u n s S = .tuple #[Mo.none.val, .int .i64 7] := by
 unfold addV Mo.addM
 rw [if_neg h]
 by_cases h3 : 0 <= (cmpR false s S false Mo.trill 0).1
 ·rw [if_pos h3]
 ·rw [if_neg h3]
  rcases h2 with h2 | h2
  ·exact absurd (by omega) h3
  ·rw [if_pos h2]
theorem addV_of (h : ¬ (Mo.okB x = false \/ ckI n s S ≠ 0 \/ u < -300000 \/ 300000 < u \/ (x.k = 2 /\ u ≠ 0))) (h2 : (cmpR false s S false Mo.trill 0).1 < 0) (h3 : ¬ (x.k ≠ 2 /\ ((Mo.later x u).y < -9999 \/ 9999 < (Mo.later x u).y))) : (adG.at (envE (.int .i64 M :: addE c x u n s S))).den L0 (envE (.int .i64 M :: addE c x u n s S)) = addV x u n s S := by
 unfold addV Mo.addM
 rw [if_neg h, if_neg (by omega), if_neg h3]
 have e : adG.at (envE (.int .i64 M :: addE c x u n s S)) = bif decide ((Mo.ofM x.k (Mo.sumT x u n s S)).2 = 0) then adL else zE (xi 44) := rfl
 rw [e]
 by_cases h7 : (Mo.ofM x.k (Mo.sumT x u n s S)).2 = 0
 ·rw [decide_eq_true h7, if_neg (fun q => q h7)]; rfl
 ·rw [decide_eq_false h7, if_pos h7]; rfl
theorem adU_at (hok : ok.evB (envE (.int .i64 M :: addE c x u n s S)) = Mo.okB x) (t : Tree) (h : Mo.okB x = true -> ckI n s S = 0 -> -300000 <= u -> u <= 300000 -> (t.at (envE (.int .i64 M :: addE c x u n s S))).den L0 (envE (.int .i64 M :: addE c x u n s S)) = addV x u n s S) : ((adU ok t).at (envE (.int .i64 M :: addE c x u n s S))).den L0 (envE (.int .i64 M :: addE c x u n s S)) = addV x u n s S := by
 have ez : (zE (it 2)).den L0 (envE (.int .i64 M :: addE c x u n s S)) = .tuple #[Mo.none.val, .int .i64 2] := rfl
 have e : (adU ok t).at (envE (.int .i64 M :: addE c x u n s S)) = bif ok.evB (envE (.int .i64 M :: addE c x u n s S)) then bif decide (ckI n s S = 0) then bif decide (u < -300000) then zE (it 2) else bif decide (300000 < u) then zE (it 2) else t.at (envE (.int .i64 M :: addE c x u n s S)) else zE (it 2) else zE (it 2) := rfl
 rw [e, hok]
 cases h1 : Mo.okB x with
 | false => rw [addV_arg (.inl h1)]; exact ez
 | true =>
  by_cases h2 : ckI n s S = 0
  ·rw [decide_eq_true h2]
   by_cases h3 : u < -300000
   ·rw [decide_eq_true h3, addV_arg (.inr (.inr (.inl h3)))]; exact ez
   ·rw [decide_eq_false h3]
    by_cases h4 : 300000 < u
    ·rw [decide_eq_true h4, addV_arg (.inr (.inr (.inr (.inl h4))))]; exact ez
    ·rw [decide_eq_false h4]; exact h h1 h2 (by omega) (by omega)
  ·rw [decide_eq_false h2, addV_arg (.inr (.inl h2))]; exact ez
theorem adY_at (r : Bool) {y : X} (hy : y.evI (envE (.int .i64 M :: addE c x u n s S)) = (Mo.later x u).y) (hk : x.k ≠ 2) (h : ¬ (Mo.okB x = false \/ ckI n s S ≠ 0 \/ u < -300000 \/ 300000 < u \/ (x.k = 2 /\ u ≠ 0))) (h2 : (cmpR false s S false Mo.trill 0).1 < 0) : ((adY r y).at (envE (.int .i64 M :: addE c x u n s S))).den L0 (envE (.int .i64 M :: addE c x u n s S)) = addV x u n s S := by
 have ez : (zE (it 7)).den L0 (envE (.int .i64 M :: addE c x u n s S)) = .tuple #[Mo.none.val, .int .i64 7] := rfl
 by_cases a : (Mo.later x u).y < -9999
 ·rw [addV_far h (.inr ⟨hk, .inl a⟩)]
  have a2 : ¬ 9999 < (Mo.later x u).y := by omega
  cases r <;> simp only [adY, cond_true, cond_false, Tree.at, X.evB, X.evI, hy, decide_eq_true a, decide_eq_false a2] <;> exact ez
 ·by_cases a2 : 9999 < (Mo.later x u).y
  ·rw [addV_far h (.inr ⟨hk, .inr a2⟩)]
   cases r <;> simp only [adY, cond_true, cond_false, Tree.at, X.evB, X.evI, hy, decide_eq_false a, decide_eq_true a2] <;> exact ez
  ·have q := addV_of (M := M) (c := c) h h2 (fun q => by rcases q.2 with q | q <;> omega)
   cases r <;> simp only [adY, cond_true, cond_false, Tree.at, X.evB, X.evI, hy, decide_eq_false a, decide_eq_false a2] <;> exact q
theorem adT1_at (r : Bool) (hk : x.k ≠ 2) (hok : ok.evB (envE (.int .i64 M :: addE c x u n s S)) = Mo.okB x) (hN : Mo.dateOk x -> -300000 <= u -> u <= 300000 -> N.evI (envE (.int .i64 M :: addE c x u n s S)) = Mo.mN x u) : ((adT1 r ok N).at (envE (.int .i64 M :: addE c x u n s S))).den L0 (envE (.int .i64 M :: addE c x u n s S)) = addV x u n s S := by
 refine adU_at hok _ fun h1 h2 h3 h4 => ?_
 have h : ¬ (Mo.okB x = false \/ ckI n s S ≠ 0 \/ u < -300000 \/ 300000 < u \/ (x.k = 2 /\ u ≠ 0)) := by
  rw [h1]; simp only [not_or]; exact ⟨by decide, fun q => q h2, by omega, by omega, fun q => hk q.1⟩
 have hd := ok_date (okB_Ok h1) hk
 obtain ⟨e1, e2, e3⟩ := yX_ev (N := N) hd h3 h4 (hN hd h3 h4)
 have e5 : (Mo.later x u).y = Mo.called (Mo.mY x u) := by unfold Mo.later; rw [if_neg hk]
 have e : (Tree.node (.lt (.at 18) (.int 0)) (.node (.lt (yX N) (.int 1)) (adY r (.sub .i64 (yX N) (.int 1))) (adY r (yX N))) (.leaf (zE (it 7)))).at (envE (.int .i64 M :: addE c x u n s S)) = bif decide ((cmpR false s S false Mo.trill 0).1 < 0) then bif decide ((yX N).evI (envE (.int .i64 M :: addE c x u n s S)) < 1) then (adY r (.sub .i64 (yX N) (.int 1))).at (envE (.int .i64 M :: addE c x u n s S)) else (adY r (yX N)).at (envE (.int .i64 M :: addE c x u n s S)) else zE (it 7) := rfl
 rw [e, e1]
 by_cases h6 : (cmpR false s S false Mo.trill 0).1 < 0
 ·rw [decide_eq_true h6]
  by_cases h7 : Mo.mY x u < 1
  ·rw [decide_eq_true h7]
   exact adY_at r (by rw [e2, e5]; unfold Mo.called; rw [if_pos h7]) hk h h6
  ·rw [decide_eq_false h7]
   exact adY_at r (by rw [e1, e5]; unfold Mo.called; rw [if_neg h7]) hk h h6
 ·rw [decide_eq_false h6, addV_far h (.inl h6)]; rfl
theorem adT2_at (hk : x.k = 2) (hok : ok.evB (envE (.int .i64 M :: addE c x u n s S)) = Mo.okB x) : ((adT2 ok).at (envE (.int .i64 M :: addE c x u n s S))).den L0 (envE (.int .i64 M :: addE c x u n s S)) = addV x u n s S := by
 refine adU_at hok _ fun h1 h2 h3 h4 => ?_
 have e : (Tree.node (.eq (.at 12) (.int 0)) (.node (.lt (.at 18) (.int 0)) adG (.leaf (zE (it 7)))) (.leaf (zE (it 2)))).at (envE (.int .i64 M :: addE c x u n s S)) = bif decide (u = 0) then bif decide ((cmpR false s S false Mo.trill 0).1 < 0) then adG.at (envE (.int .i64 M :: addE c x u n s S)) else zE (it 7) else zE (it 2) := rfl
 rw [e]
 by_cases h5 : u = 0
 ·have h : ¬ (Mo.okB x = false \/ ckI n s S ≠ 0 \/ u < -300000 \/ 300000 < u \/ (x.k = 2 /\ u ≠ 0)) := by
   rw [h1]; simp only [not_or]; exact ⟨by decide, fun q => q h2, by omega, by omega, fun q => q.2 h5⟩
  rw [decide_eq_true h5]
  by_cases h6 : (cmpR false s S false Mo.trill 0).1 < 0
  ·rw [decide_eq_true h6]
   exact addV_of h h6 (fun q => q.1 hk)
  ·rw [decide_eq_false h6, addV_far h (.inl h6)]; rfl
 ·rw [decide_eq_false h5, addV_arg (.inr (.inr (.inr (.inr ⟨hk, h5⟩))))]; rfl
end

noncomputable def normalM (x : Mo) : Mo × Int :=
 if Mo.okB x = true /\ x.z = true /\ x.k ≠ 1 then ({ (Mo.ofM x.k x.TA).1 with z := decide ((Mo.ofM x.k x.TA).2 = 0) }, (Mo.ofM x.k x.TA).2) else (Mo.none, 2)
theorem TA_Small {x : Mo} (h : Mo.Ok x) : Small x.TA := by
 have := TA_small h
 exact ⟨by omega, by omega⟩
def ptrNormal : Tree := (.node (.at 12) (.node (.at 10) (.node (.eq (.at 1) (.int 1)) (.leaf (.tup [(.agg [(.int .i64 0), (.int .i64 0), (.int .i64 0), (.int .i64 0), (.int .i64 0), (.int .i64 0), (.bool false), (.str []), (.int .i64 0), (.bool false), (.int .i64 0)]), (.int .i64 2)])) (.node (.eq (.at 28) (.int 0)) (.leaf (.tup [(.agg [(.xi .i64 (.at 17)), (.xi .i64 (.at 18)), (.xi .i64 (.at 19)), (.xi .i64 (.at 20)), (.xi .i64 (.at 21)), (.xi .i64 (.at 22)), (.xb (.at 23)), (.xs (.at 24)), (.xi .i64 (.at 25)), (.bool true), (.xi .i64 (.at 27))]), (.xi .i64 (.at 28))])) (.leaf (.tup [(.agg [(.xi .i64 (.at 17)), (.xi .i64 (.at 18)), (.xi .i64 (.at 19)), (.xi .i64 (.at 20)), (.xi .i64 (.at 21)), (.xi .i64 (.at 22)), (.xb (.at 23)), (.xs (.at 24)), (.xi .i64 (.at 25)), (.bool false), (.xi .i64 (.at 27))]), (.xi .i64 (.at 28))])))) (.leaf (.tup [(.agg [(.int .i64 0), (.int .i64 0), (.int .i64 0), (.int .i64 0), (.int .i64 0), (.int .i64 0), (.bool false), (.str []), (.int .i64 0), (.bool false), (.int .i64 0)]), (.int .i64 2)]))) (.leaf (.tup [(.agg [(.int .i64 0), (.int .i64 0), (.int .i64 0), (.int .i64 0), (.int .i64 0), (.int .i64 0), (.bool false), (.str []), (.int .i64 0), (.bool false), (.int .i64 0)]), (.int .i64 2)])))
def pnoC : List CallX := [⟨29, [moV 1], [], xb 12⟩, ⟨72, [moV 1], [(.at 12, true)], ptV 13⟩, ⟨37, [xi 1, ptV 13], [(.at 12, true)], .tup [moV 17, xi 28]⟩]
noncomputable def pnoE (x : Mo) : List Value := x.list ++ [.bool (Mo.okB x)] ++ ptL x.TA ++ (Mo.ofM x.k x.TA).1.list ++ [.int .i64 (Mo.ofM x.k x.TA).2]
theorem prun_normal : chk (runTr Tryz.prog nG (fun _ => none) gd moT pnoC 100 19 [moV 1] h0) ptrNormal [] = true := by decide +kernel
theorem pno_ok (x : Mo) (hx : x.s.size <= 1000000) (M : Int) : AllX Tryz.prog (envE (.int .i64 M :: pnoE x)) (Vars M) pnoC :=
 ⟨⟨rfl, fk, fun _ L w hV => pvalid_is x hx w M hV⟩, ⟨rfl, fk, fun hp L w hV => pat_is x (okB_Ok (show Mo.okB x = true from hp.1)) w M hV⟩, ⟨rfl, fk, fun hp L w hV => pof_m x.k x.TA (okB_Ok (show Mo.okB x = true from hp.1)).1 (TA_Small (okB_Ok (show Mo.okB x = true from hp.1))) w M hV⟩, trivial⟩
theorem pnormal_at (x : Mo) (M : Int) : (ptrNormal.at (envE (.int .i64 M :: pnoE x))).den L0 (envE (.int .i64 M :: pnoE x)) = .tuple #[(normalM x).1.val, .int .i64 (normalM x).2] := by
 have e : ptrNormal.at (envE (.int .i64 M :: pnoE x)) = bif Mo.okB x then bif x.z then bif decide (x.k = 1) then .tup [.agg [it 0, it 0, it 0, it 0, it 0, it 0, .bool false, .str [], it 0, .bool false, it 0], it 2] else bif decide ((Mo.ofM x.k x.TA).2 = 0) then .tup [.agg [xi 17, xi 18, xi 19, xi 20, xi 21, xi 22, xb 23, xs 24, xi 25, .bool true, xi 27], xi 28] else .tup [.agg [xi 17, xi 18, xi 19, xi 20, xi 21, xi 22, xb 23, xs 24, xi 25, .bool false, xi 27], xi 28] else .tup [.agg [it 0, it 0, it 0, it 0, it 0, it 0, .bool false, .str [], it 0, .bool false, it 0], it 2] else .tup [.agg [it 0, it 0, it 0, it 0, it 0, it 0, .bool false, .str [], it 0, .bool false, it 0], it 2] := rfl
 rw [e]
 unfold normalM
 by_cases hc : Mo.okB x = true /\ x.z = true /\ x.k ≠ 1
 ·rw [if_pos hc]
  obtain ⟨h1, h2, h3⟩ := hc
  rw [h1, h2, decide_eq_false h3]
  by_cases h4 : (Mo.ofM x.k x.TA).2 = 0
  ·rw [decide_eq_true h4]; rfl
  ·rw [decide_eq_false h4]; rfl
 ·rw [if_neg hc]
  cases h1 : Mo.okB x with
  | false => rfl
  | true =>
   cases h2 : x.z with
   | false => rfl
   | true =>
    have h3 : x.k = 1 := Classical.byContradiction fun h => hc ⟨h1, h2, h⟩
    rw [decide_eq_true h3]
    rfl
theorem pnormal_is (x : Mo) (hx : x.s.size <= 1000000) (y : Mo) (k : Int) (hr : normalM x = (y, k)) (w : World) (M : Int) (hV : Vars M w) : Calls Tryz.prog 19 #[x.val] w fun e w' => e = .returned (.tuple #[y.val, .int .i64 k]) /\ Below w.heap.size w w' := by
 have h := tree_run (env := pnoE x) prun_normal (pno_ok x hx M) rfl trivial rfl hV
 rw [pnormal_at x M, hr] at h
 exact h
def pdyC : List CallX := [⟨29, [moV 1], [], xb 12⟩, ⟨34, [xi 2], [(.at 12, true), (.eq (.at 1) (.int 1), true)], xi 13⟩, ⟨34, [xi 2], [(.at 12, true), (.eq (.at 1) (.int 3), true)], xi 13⟩, ⟨70, [xi 13, xi 3, xi 4], [(.at 12, true), (.eq (.at 1) (.int 1), true)], xi 14⟩, ⟨70, [xi 13, xi 3, xi 4], [(.at 12, true), (.eq (.at 1) (.int 3), true)], xi 14⟩]
def pdyE (x : Mo) : List Value := x.list ++ [.bool (Mo.okB x), .int .i64 (Mo.counted x.y), .int .i64 x.day]
def ptrDay : Tree := (.node (.at 12) (.node (.eq (.at 1) (.int 1)) (.leaf (.tup [(.xi .i64 (.at 14)), (.int .i64 0)])) (.node (.eq (.at 1) (.int 3)) (.leaf (.tup [(.xi .i64 (.at 14)), (.int .i64 0)])) (.leaf (.tup [(.int .i64 0), (.int .i64 2)])))) (.leaf (.tup [(.int .i64 0), (.int .i64 2)])))
theorem prun_daysm : chk (runTr Tryz.prog nG (fun _ => none) gd moT pdyC 100 17 [moV 1] h0) ptrDay [] = true := by decide +kernel
theorem pday_of (x : Mo) (h : Mo.dateOk x) (w : World) (M : Int) (hV : Vars M w) : Calls Tryz.prog 70 #[.int .i64 (Mo.counted x.y), .int .i64 x.m, .int .i64 x.d] w fun e w' => e = .returned (.int .i64 x.day) /\ Below w.heap.size w w' := by
 have hc := cnt_bd h
 have hdl := day_le h
 obtain ⟨q1, q2, q3, q4, q5, q6, q7⟩ := h
 exact pdays_is (Mo.counted x.y) x.m x.d (by omega) (by omega) q4 q5 (by omega) (by omega) w M hV
theorem pdy_ok (x : Mo) (hx : x.s.size <= 1000000) (M : Int) : AllX Tryz.prog (envE (.int .i64 M :: pdyE x)) (Vars M) pdyC := by
 have k1 : Fx.Ok (envE (.int .i64 M :: pdyE x)) [(.at 12, true), (.eq (.at 1) (.int 1), true)] -> Mo.dateOk x := fun hp => by
  have hk : decide (x.k = 1) = true := hp.2.1
  have hk := of_decide_eq_true hk
  exact ok_date (okB_Ok (show Mo.okB x = true from hp.1)) (by omega)
 have k3 : Fx.Ok (envE (.int .i64 M :: pdyE x)) [(.at 12, true), (.eq (.at 1) (.int 3), true)] -> Mo.dateOk x := fun hp => by
  have hk : decide (x.k = 3) = true := hp.2.1
  have hk := of_decide_eq_true hk
  exact ok_date (okB_Ok (show Mo.okB x = true from hp.1)) (by omega)
 exact ⟨⟨rfl, fk, fun _ L w hV => pvalid_is x hx w M hV⟩, ⟨rfl, fk, fun hp L w hV => pcounted_is x.y (by have := (k1 hp).2.1; omega) w M hV⟩, ⟨rfl, fk, fun hp L w hV => pcounted_is x.y (by have := (k3 hp).2.1; omega) w M hV⟩,
  ⟨rfl, fk, fun hp L w hV => pday_of x (k1 hp) w M hV⟩, ⟨rfl, fk, fun hp L w hV => pday_of x (k3 hp) w M hV⟩, trivial⟩
theorem pdays_at (x : Mo) (M : Int) : (ptrDay.at (envE (.int .i64 M :: pdyE x))).den L0 (envE (.int .i64 M :: pdyE x)) = .tuple #[.int .i64 (daysM x).1, .int .i64 (daysM x).2] := by
 have e : ptrDay.at (envE (.int .i64 M :: pdyE x)) = bif Mo.okB x then bif decide (x.k = 1) then .tup [xi 14, it 0] else bif decide (x.k = 3) then .tup [xi 14, it 0] else .tup [it 0, it 2] else .tup [it 0, it 2] := rfl
 rw [e]
 unfold daysM
 cases h : Mo.okB x with
 | false => rw [if_neg (by simp)]; rfl
 | true =>
  rcases (okB_Ok h).1 with hk | hk | hk
  ·rw [if_pos ⟨rfl, by omega⟩, decide_eq_true hk]; rfl
  ·rw [if_neg (by omega), decide_eq_false (by omega), decide_eq_false (by omega)]; rfl
  ·rw [if_pos ⟨rfl, by omega⟩, decide_eq_false (by omega), decide_eq_true hk]; rfl
theorem pdaysm_is (x : Mo) (hx : x.s.size <= 1000000) (n k : Int) (hr : daysM x = (n, k)) (w : World) (M : Int) (hV : Vars M w) : Calls Tryz.prog 17 #[x.val] w fun e w' => e = .returned (.tuple #[.int .i64 n, .int .i64 k]) /\ Below w.heap.size w w' := by
 have h := tree_run (env := pdyE x) prun_daysm (pdy_ok x hx M) rfl trivial rfl hV
 rw [pdays_at x M, hr] at h
 exact h
def rtrNormal : Tree := (.node (.eq (.at 12) (.int 0)) (.node (.at 10) (.node (.eq (.at 1) (.int 1)) (.leaf (.tup [(.agg [(.int .i64 0), (.int .i64 0), (.int .i64 0), (.int .i64 0), (.int .i64 0), (.int .i64 0), (.bool false), (.str []), (.int .i64 0), (.bool false), (.int .i64 0)]), (.int .i64 2)])) (.node (.eq (.at 28) (.int 0)) (.leaf (.tup [(.agg [(.xi .i64 (.at 17)), (.xi .i64 (.at 18)), (.xi .i64 (.at 19)), (.xi .i64 (.at 20)), (.xi .i64 (.at 21)), (.xi .i64 (.at 22)), (.xb (.at 23)), (.xs (.at 24)), (.xi .i64 (.at 25)), (.bool true), (.xi .i64 (.at 27))]), (.xi .i64 (.at 28))])) (.leaf (.tup [(.agg [(.xi .i64 (.at 17)), (.xi .i64 (.at 18)), (.xi .i64 (.at 19)), (.xi .i64 (.at 20)), (.xi .i64 (.at 21)), (.xi .i64 (.at 22)), (.xb (.at 23)), (.xs (.at 24)), (.xi .i64 (.at 25)), (.bool false), (.xi .i64 (.at 27))]), (.xi .i64 (.at 28))])))) (.leaf (.tup [(.agg [(.int .i64 0), (.int .i64 0), (.int .i64 0), (.int .i64 0), (.int .i64 0), (.int .i64 0), (.bool false), (.str []), (.int .i64 0), (.bool false), (.int .i64 0)]), (.int .i64 2)]))) (.leaf (.tup [(.agg [(.int .i64 0), (.int .i64 0), (.int .i64 0), (.int .i64 0), (.int .i64 0), (.int .i64 0), (.bool false), (.str []), (.int .i64 0), (.bool false), (.int .i64 0)]), (.int .i64 2)])))
def rnoC : List CallX := [⟨16, [moV 1], [], xi 12⟩, ⟨73, [moV 1], [(.eq (.at 12) (.int 0), true)], ptV 13⟩, ⟨46, [xi 1, ptV 13], [(.eq (.at 12) (.int 0), true)], .tup [moV 17, xi 28]⟩]
noncomputable def rnoE (x : Mo) : List Value := x.list ++ [.int .i64 (bif Mo.okB x then 0 else 2)] ++ ptL x.TA ++ (Mo.ofM x.k x.TA).1.list ++ [.int .i64 (Mo.ofM x.k x.TA).2]
theorem rrun_normal : chk (runTr Tryz.prog nG (fun _ => none) gd moT rnoC 100 20 [moV 1] h0) rtrNormal [] = true := by decide +kernel
theorem rno_ok (x : Mo) (hx : x.s.size <= 1000000) (M : Int) : AllX Tryz.prog (envE (.int .i64 M :: rnoE x)) (Vars M) rnoC :=
 ⟨⟨rfl, fk, fun _ L w hV => rcheckm_is x hx w M hV⟩, ⟨rfl, fk, fun hp L w hV => rat_is x (okB_Ok (by have h : decide ((bif Mo.okB x then (0 : Int) else 2) = 0) = true := hp.1; cases hq : Mo.okB x with | true => rfl | false => rw [hq] at h; cases h)) w M hV⟩, ⟨rfl, fk, fun hp L w hV => rof_m x.k x.TA (okB_Ok (by have h : decide ((bif Mo.okB x then (0 : Int) else 2) = 0) = true := hp.1; cases hq : Mo.okB x with | true => rfl | false => rw [hq] at h; cases h)).1 (TA_Small (okB_Ok (by have h : decide ((bif Mo.okB x then (0 : Int) else 2) = 0) = true := hp.1; cases hq : Mo.okB x with | true => rfl | false => rw [hq] at h; cases h))) w M hV⟩, trivial⟩
theorem rnormal_at (x : Mo) (M : Int) : (rtrNormal.at (envE (.int .i64 M :: rnoE x))).den L0 (envE (.int .i64 M :: rnoE x)) = .tuple #[(normalM x).1.val, .int .i64 (normalM x).2] := by
 have hz : ∀ q : Bool, decide ((bif q then (0 : Int) else 2) = 0) = q := fun q => by cases q <;> rfl
 have e : rtrNormal.at (envE (.int .i64 M :: rnoE x)) = bif decide ((bif Mo.okB x then (0 : Int) else 2) = 0) then bif x.z then bif decide (x.k = 1) then .tup [.agg [it 0, it 0, it 0, it 0, it 0, it 0, .bool false, .str [], it 0, .bool false, it 0], it 2] else bif decide ((Mo.ofM x.k x.TA).2 = 0) then .tup [.agg [xi 17, xi 18, xi 19, xi 20, xi 21, xi 22, xb 23, xs 24, xi 25, .bool true, xi 27], xi 28] else .tup [.agg [xi 17, xi 18, xi 19, xi 20, xi 21, xi 22, xb 23, xs 24, xi 25, .bool false, xi 27], xi 28] else .tup [.agg [it 0, it 0, it 0, it 0, it 0, it 0, .bool false, .str [], it 0, .bool false, it 0], it 2] else .tup [.agg [it 0, it 0, it 0, it 0, it 0, it 0, .bool false, .str [], it 0, .bool false, it 0], it 2] := rfl
 rw [e]
 rw [hz]
 unfold normalM
 by_cases hc : Mo.okB x = true /\ x.z = true /\ x.k ≠ 1
 ·rw [if_pos hc]
  obtain ⟨h1, h2, h3⟩ := hc
  rw [h1, h2, decide_eq_false h3]
  by_cases h4 : (Mo.ofM x.k x.TA).2 = 0
  ·rw [decide_eq_true h4]; rfl
  ·rw [decide_eq_false h4]; rfl
 ·rw [if_neg hc]
  cases h1 : Mo.okB x with
  | false => rfl
  | true =>
   cases h2 : x.z with
   | false => rfl
   | true =>
    have h3 : x.k = 1 := Classical.byContradiction fun h => hc ⟨h1, h2, h⟩
    rw [decide_eq_true h3]
    rfl
theorem rnormal_is (x : Mo) (hx : x.s.size <= 1000000) (y : Mo) (k : Int) (hr : normalM x = (y, k)) (w : World) (M : Int) (hV : Vars M w) : Calls Tryz.prog 20 #[x.val] w fun e w' => e = .returned (.tuple #[y.val, .int .i64 k]) /\ Below w.heap.size w w' := by
 have h := tree_run (env := rnoE x) rrun_normal (rno_ok x hx M) rfl trivial rfl hV
 rw [rnormal_at x M, hr] at h
 exact h
def rdyC : List CallX := [⟨16, [moV 1], [], xi 12⟩, ⟨44, [xi 2], [(.eq (.at 12) (.int 0), true), (.eq (.at 1) (.int 1), true)], xi 13⟩, ⟨44, [xi 2], [(.eq (.at 12) (.int 0), true), (.eq (.at 1) (.int 3), true)], xi 13⟩, ⟨71, [xi 13, xi 3, xi 4], [(.eq (.at 12) (.int 0), true), (.eq (.at 1) (.int 1), true)], xi 14⟩, ⟨71, [xi 13, xi 3, xi 4], [(.eq (.at 12) (.int 0), true), (.eq (.at 1) (.int 3), true)], xi 14⟩]
def rdyE (x : Mo) : List Value := x.list ++ [.int .i64 (bif Mo.okB x then 0 else 2), .int .i64 (Mo.counted x.y), .int .i64 x.day]
def rtrDay : Tree := (.node (.eq (.at 12) (.int 0)) (.node (.eq (.at 1) (.int 1)) (.leaf (.tup [(.xi .i64 (.at 14)), (.int .i64 0)])) (.node (.eq (.at 1) (.int 3)) (.leaf (.tup [(.xi .i64 (.at 14)), (.int .i64 0)])) (.leaf (.tup [(.int .i64 0), (.int .i64 2)])))) (.leaf (.tup [(.int .i64 0), (.int .i64 2)])))
theorem rrun_daysm : chk (runTr Tryz.prog nG (fun _ => none) gd moT rdyC 100 18 [moV 1] h0) rtrDay [] = true := by decide +kernel
theorem rday_of (x : Mo) (h : Mo.dateOk x) (w : World) (M : Int) (hV : Vars M w) : Calls Tryz.prog 71 #[.int .i64 (Mo.counted x.y), .int .i64 x.m, .int .i64 x.d] w fun e w' => e = .returned (.int .i64 x.day) /\ Below w.heap.size w w' := by
 have hc := cnt_bd h
 have hdl := day_le h
 obtain ⟨q1, q2, q3, q4, q5, q6, q7⟩ := h
 exact rdays_is (Mo.counted x.y) x.m x.d x.day rfl (by omega) (by omega) q4 q5 (by omega) (by omega) w M hV
theorem rdy_ok (x : Mo) (hx : x.s.size <= 1000000) (M : Int) : AllX Tryz.prog (envE (.int .i64 M :: rdyE x)) (Vars M) rdyC := by
 have k1 : Fx.Ok (envE (.int .i64 M :: rdyE x)) [(.eq (.at 12) (.int 0), true), (.eq (.at 1) (.int 1), true)] -> Mo.dateOk x := fun hp => by
  have hk : decide (x.k = 1) = true := hp.2.1
  have hk := of_decide_eq_true hk
  exact ok_date (okB_Ok (by have h : decide ((bif Mo.okB x then (0 : Int) else 2) = 0) = true := hp.1; cases hq : Mo.okB x with | true => rfl | false => rw [hq] at h; cases h)) (by omega)
 have k3 : Fx.Ok (envE (.int .i64 M :: rdyE x)) [(.eq (.at 12) (.int 0), true), (.eq (.at 1) (.int 3), true)] -> Mo.dateOk x := fun hp => by
  have hk : decide (x.k = 3) = true := hp.2.1
  have hk := of_decide_eq_true hk
  exact ok_date (okB_Ok (by have h : decide ((bif Mo.okB x then (0 : Int) else 2) = 0) = true := hp.1; cases hq : Mo.okB x with | true => rfl | false => rw [hq] at h; cases h)) (by omega)
 exact ⟨⟨rfl, fk, fun _ L w hV => rcheckm_is x hx w M hV⟩, ⟨rfl, fk, fun hp L w hV => rcounted_is x.y (by have := (k1 hp).2.1; omega) w M hV⟩, ⟨rfl, fk, fun hp L w hV => rcounted_is x.y (by have := (k3 hp).2.1; omega) w M hV⟩,
  ⟨rfl, fk, fun hp L w hV => rday_of x (k1 hp) w M hV⟩, ⟨rfl, fk, fun hp L w hV => rday_of x (k3 hp) w M hV⟩, trivial⟩
theorem rdays_at (x : Mo) (M : Int) : (rtrDay.at (envE (.int .i64 M :: rdyE x))).den L0 (envE (.int .i64 M :: rdyE x)) = .tuple #[.int .i64 (daysM x).1, .int .i64 (daysM x).2] := by
 have hz : ∀ q : Bool, decide ((bif q then (0 : Int) else 2) = 0) = q := fun q => by cases q <;> rfl
 have e : rtrDay.at (envE (.int .i64 M :: rdyE x)) = bif decide ((bif Mo.okB x then (0 : Int) else 2) = 0) then bif decide (x.k = 1) then .tup [xi 14, it 0] else bif decide (x.k = 3) then .tup [xi 14, it 0] else .tup [it 0, it 2] else .tup [it 0, it 2] := rfl
 rw [e]
 rw [hz]
 unfold daysM
 cases h : Mo.okB x with
 | false => rw [if_neg (by simp)]; rfl
 | true =>
  rcases (okB_Ok h).1 with hk | hk | hk
  ·rw [if_pos ⟨rfl, by omega⟩, decide_eq_true hk]; rfl
  ·rw [if_neg (by omega), decide_eq_false (by omega), decide_eq_false (by omega)]; rfl
  ·rw [if_pos ⟨rfl, by omega⟩, decide_eq_false (by omega), decide_eq_true hk]; rfl
theorem rdaysm_is (x : Mo) (hx : x.s.size <= 1000000) (n k : Int) (hr : daysM x = (n, k)) (w : World) (M : Int) (hV : Vars M w) : Calls Tryz.prog 18 #[x.val] w fun e w' => e = .returned (.tuple #[.int .i64 n, .int .i64 k]) /\ Below w.heap.size w w' := by
 have h := tree_run (env := rdyE x) rrun_daysm (rdy_ok x hx M) rfl trivial rfl hV
 rw [rdays_at x M, hr] at h
 exact h
end Go.Proofs.YtckodhldimhbfaaGreatDoor
