/-
  Part 27 of the proof: what functions return, and plain facts (Mpof2). Conditions: each theorem names its own.
-/
import Derived.Test.YtckodhldimhbfaaGreatDoorG26
set_option maxRecDepth 1000000
set_option maxHeartbeats 16000000
namespace Go.Proofs.YtckodhldimhbfaaGreatDoor
open Go Go.RowKit Go.Ex

theorem den_ite {L : Ex.Loc} {E : Nat -> Value} {p : Prop} [Decidable p] {a b : V} {c : Value} (h1 : p -> a.den L E = c) (h2 : ¬p -> b.den L E = c) : V.den L E (if p then a else b) = c := by
 by_cases h : p
 ·rw [if_pos h]; exact h1 h
 ·rw [if_neg h]; exact h2 h
noncomputable def ofV (k T : Int) : Value := .tuple #[(Mo.ofM k T).1.val, .int .i64 (Mo.ofM k T).2]
def zeroV : Value := .tuple #[Mo.none.val, .int .i64 7]
theorem ofV_far {k T : Int} (hk : k ≠ 2) (h : Mo.dayOf T < -4000000 \/ 4000000 < Mo.dayOf T \/ Mo.called (Mo.dateOf (Mo.dayOf T)).1 < -9999 \/ 9999 < Mo.called (Mo.dateOf (Mo.dayOf T)).1) : ofV k T = zeroV := by
 unfold ofV Mo.ofM
 rw [if_pos ⟨hk, h⟩]; rfl
theorem ofV_sec {k T : Int} (hk : k ≠ 1) (h : k ≠ 2 -> ¬ (Mo.dayOf T < -4000000 \/ 4000000 < Mo.dayOf T \/ Mo.called (Mo.dateOf (Mo.dayOf T)).1 < -9999 \/ 9999 < Mo.called (Mo.dateOf (Mo.dayOf T)).1)) (hs : (Mo.secOf T).k ≠ 0) : ofV k T = .tuple #[Mo.none.val, .int .i64 (Mo.secOf T).k] := by
 unfold ofV Mo.ofM
 rw [if_neg (fun q => h q.1 q.2), if_pos ⟨hk, hs⟩]
theorem ofV_good {k T : Int} (h : k ≠ 2 -> ¬ (Mo.dayOf T < -4000000 \/ 4000000 < Mo.dayOf T \/ Mo.called (Mo.dateOf (Mo.dayOf T)).1 < -9999 \/ 9999 < Mo.called (Mo.dateOf (Mo.dayOf T)).1)) (hs : k ≠ 1 -> (Mo.secOf T).k = 0) :
  ofV k T = .tuple #[.agg #[.int .i64 k, .int .i64 (if k = 2 then 0 else Mo.called (Mo.dateOf (Mo.dayOf T)).1), .int .i64 (if k = 2 then 0 else (Mo.dateOf (Mo.dayOf T)).2.1), .int .i64 (if k = 2 then 0 else (Mo.dateOf (Mo.dayOf T)).2.2), .int .i64 (if k = 1 then 0 else Mo.restOf T / 3600), .int .i64 (if k = 1 then 0 else Mo.restOf T / 60 % 60), .bool (if k = 1 then false else (Mo.secOf T).n), .string (if k = 1 then ⟨#[]⟩ else (Mo.secOf T).s), .int .i64 (if k = 1 then 0 else (Mo.secOf T).S), .bool false, .int .i64 0], .int .i64 0] := by
 unfold ofV Mo.ofM
 rw [if_neg (fun q => h q.1 q.2), if_neg (fun q => q.2 (hs q.1))]
 rfl
theorem pof1_at (T M : Int) (hT : Small T) : (trOf1.at (envE (.int .i64 M :: ofE T))).den L0 (envE (.int .i64 M :: ofE T)) = ofV 1 T := by
 obtain ⟨f1, f2⟩ := Mo.tdiv_floor (T / Dc.U)
 have t0 := hT.1
 have t1 := hT.2
 have b1 : -86400 < (T / Dc.U).tmod 86400 /\ (T / Dc.U).tmod 86400 < 86400 := by
  have h2 := Int.tmod_lt_of_pos (T / Dc.U) (b := 86400) (by decide)
  have := Int.tmod_lt_of_pos (-(T / Dc.U)) (b := 86400) (by decide)
  rw [Int.neg_tmod] at this
  omega
 have far := ofV_far (k := 1) (T := T) (by decide)
 have good := ofV_good (k := 1) (T := T)
 generalize hE : envE (.int .i64 M :: ofE T) = E
 have e1 : E 1 = .int .i64 (T / Dc.U) := by rw [<- hE]; rfl
 have e5 : E 5 = .int .i64 (Mo.dateOf (Mo.dayOf T)).1 := by rw [<- hE]; rfl
 have e6 : E 6 = .int .i64 (Mo.dateOf (Mo.dayOf T)).2.1 := by rw [<- hE]; rfl
 have e7 : E 7 = .int .i64 (Mo.dateOf (Mo.dayOf T)).2.2 := by rw [<- hE]; rfl
 clear hE
 have hD : ((T / Dc.U).tmod 86400 < 0 /\ Mo.dayOf T = (T / Dc.U).tdiv 86400 - 1) \/ (¬ (T / Dc.U).tmod 86400 < 0 /\ Mo.dayOf T = (T / Dc.U).tdiv 86400) := by
  unfold Mo.dayOf
  by_cases h : (T / Dc.U).tmod 86400 < 0
  ·rw [if_pos h] at f1; exact .inl ⟨h, f1⟩
  ·rw [if_neg h] at f1; exact .inr ⟨h, f1⟩
 have hR : ((T / Dc.U).tmod 86400 < 0 /\ Mo.restOf T = (T / Dc.U).tmod 86400 + 86400) \/ (¬ (T / Dc.U).tmod 86400 < 0 /\ Mo.restOf T = (T / Dc.U).tmod 86400) := by
  unfold Mo.restOf
  by_cases h : (T / Dc.U).tmod 86400 < 0
  ·rw [if_pos h] at f2; exact .inl ⟨h, f2⟩
  ·rw [if_neg h] at f2; exact .inr ⟨h, f2⟩
 have hq : -9223372036854775807 <= (T / Dc.U).tdiv 86400 /\ (T / Dc.U).tdiv 86400 <= 9223372036854775807 := by split at f1 <;> omega
 have hC : ((Mo.dateOf (Mo.dayOf T)).1 < 1 /\ Mo.called (Mo.dateOf (Mo.dayOf T)).1 = (Mo.dateOf (Mo.dayOf T)).1 - 1) \/ (¬ (Mo.dateOf (Mo.dayOf T)).1 < 1 /\ Mo.called (Mo.dateOf (Mo.dayOf T)).1 = (Mo.dateOf (Mo.dayOf T)).1) := by
  unfold Mo.called
  by_cases h : (Mo.dateOf (Mo.dayOf T)).1 < 1
  ·rw [if_pos h]; exact .inl ⟨h, rfl⟩
  ·rw [if_neg h]; exact .inr ⟨h, rfl⟩
 have hY : -4000000 <= Mo.dayOf T -> Mo.dayOf T <= 4000000 -> -12000 <= (Mo.dateOf (Mo.dayOf T)).1 /\ (Mo.dateOf (Mo.dayOf T)).1 <= 12000 := fun a b => Mo.dateOf_bd a b
 have w1 : IntKind.i64.wrap ((T / Dc.U).tdiv 86400) = (T / Dc.U).tdiv 86400 := w64 (by omega) (by omega)
 have w2 : IntKind.i64.wrap ((T / Dc.U).tdiv 86400 - 1) = (T / Dc.U).tdiv 86400 - 1 := w64 (by omega) (by omega)
 clear f1 f2
 simp only [trOf1, Tree.at, X.evB, X.evI, e1, e5, w1, w2, Bool.cond_eq_ite, decide_eq_true_eq]
 generalize hy : (Mo.dateOf (Mo.dayOf T)).1 = y at *
 generalize hc : Mo.called y = c at *
 generalize hd : Mo.dayOf T = D at *
 generalize (T / Dc.U).tdiv 86400 = q at *
 generalize hr0 : (T / Dc.U).tmod 86400 = r at *
 have hw : IntKind.i64.wrap (y - 1) = (y - 1 + 9223372036854775808) % 18446744073709551616 - 9223372036854775808 := IntKind.wrap_i64 _
 obtain ⟨z, hz⟩ : ∃ z, IntKind.i64.wrap (y - 1) = z := ⟨_, rfl⟩
 rw [hz] at hw
 simp only [hz]
 repeat' (refine den_ite (fun h => ?_) (fun h => ?_))
 all_goals first
  | (rw [far (by omega)]; rfl)
  | (rw [good (fun _ => by omega) (fun h => by omega)]; simp only [V.den, V.dens, X.evI, e5, e6, e7, hz]; rw [show c = z by omega]; rfl)
  | (rw [good (fun _ => by omega) (fun h => by omega)]; simp only [V.den, V.dens, X.evI, e5, e6, e7]; rw [show c = y by omega]; rfl)
theorem pof2_at (T M : Int) (hT : Small T) : (trOf2.at (envE (.int .i64 M :: ofE T))).den L0 (envE (.int .i64 M :: ofE T)) = ofV 2 T := by
 obtain ⟨f1, f2⟩ := Mo.tdiv_floor (T / Dc.U)
 have t0 := hT.1
 have t1 := hT.2
 have b1 : -86400 < (T / Dc.U).tmod 86400 /\ (T / Dc.U).tmod 86400 < 86400 := by
  have h2 := Int.tmod_lt_of_pos (T / Dc.U) (b := 86400) (by decide)
  have := Int.tmod_lt_of_pos (-(T / Dc.U)) (b := 86400) (by decide)
  rw [Int.neg_tmod] at this
  omega
 have sec := ofV_sec (k := 2) (T := T) (by decide)
 have good := ofV_good (k := 2) (T := T)
 generalize hE : envE (.int .i64 M :: ofE T) = E
 have e1 : E 1 = .int .i64 (T / Dc.U) := by rw [<- hE]; rfl
 have e11 : E 11 = .bool (Mo.secOf T).n := by rw [<- hE]; rfl
 have e12 : E 12 = .string (Mo.secOf T).s := by rw [<- hE]; rfl
 have e13 : E 13 = .int .i64 (Mo.secOf T).S := by rw [<- hE]; rfl
 have e14 : E 14 = .int .i64 (Mo.secOf T).k := by rw [<- hE]; rfl
 clear hE
 have hD : ((T / Dc.U).tmod 86400 < 0 /\ Mo.dayOf T = (T / Dc.U).tdiv 86400 - 1) \/ (¬ (T / Dc.U).tmod 86400 < 0 /\ Mo.dayOf T = (T / Dc.U).tdiv 86400) := by
  unfold Mo.dayOf
  by_cases h : (T / Dc.U).tmod 86400 < 0
  ·rw [if_pos h] at f1; exact .inl ⟨h, f1⟩
  ·rw [if_neg h] at f1; exact .inr ⟨h, f1⟩
 have hR : ((T / Dc.U).tmod 86400 < 0 /\ Mo.restOf T = (T / Dc.U).tmod 86400 + 86400) \/ (¬ (T / Dc.U).tmod 86400 < 0 /\ Mo.restOf T = (T / Dc.U).tmod 86400) := by
  unfold Mo.restOf
  by_cases h : (T / Dc.U).tmod 86400 < 0
  ·rw [if_pos h] at f2; exact .inl ⟨h, f2⟩
  ·rw [if_neg h] at f2; exact .inr ⟨h, f2⟩
 have hq : -9223372036854775807 <= (T / Dc.U).tdiv 86400 /\ (T / Dc.U).tdiv 86400 <= 9223372036854775807 := by split at f1 <;> omega
 have w1 : IntKind.i64.wrap ((T / Dc.U).tdiv 86400) = (T / Dc.U).tdiv 86400 := w64 (by omega) (by omega)
 have w2 : IntKind.i64.wrap ((T / Dc.U).tdiv 86400 - 1) = (T / Dc.U).tdiv 86400 - 1 := w64 (by omega) (by omega)
 clear f1 f2
 simp only [trOf2, Tree.at, X.evB, X.evI, e1, e14, Bool.cond_eq_ite, decide_eq_true_eq]
 generalize (T / Dc.U).tdiv 86400 = q at *
 generalize hr0 : (T / Dc.U).tmod 86400 = r at *
 generalize hRR : Mo.restOf T = R at *
 have hA : r < 0 -> IntKind.i64.wrap ((IntKind.i64.wrap (r + 86400)).tdiv 3600) = R / 3600 /\ (IntKind.i64.wrap ((IntKind.i64.wrap (r + 86400)).tdiv 60)).tmod 60 = R / 60 % 60 := fun h => by
  rw [w64 (n := r + 86400) (by omega) (by omega), Int.tdiv_eq_ediv_of_nonneg (by omega), Int.tdiv_eq_ediv_of_nonneg (by omega), w64 (n := (r + 86400) / 3600) (by omega) (by omega), w64 (n := (r + 86400) / 60) (by omega) (by omega), Int.tmod_eq_emod_of_nonneg (by omega)]
  omega
 have hB : ¬ r < 0 -> IntKind.i64.wrap (r.tdiv 3600) = R / 3600 /\ (IntKind.i64.wrap (r.tdiv 60)).tmod 60 = R / 60 % 60 := fun h => by
  rw [Int.tdiv_eq_ediv_of_nonneg (by omega), Int.tdiv_eq_ediv_of_nonneg (by omega), w64 (n := r / 3600) (by omega) (by omega), w64 (n := r / 60) (by omega) (by omega), Int.tmod_eq_emod_of_nonneg (by omega)]
  omega
 have hr : (T / Dc.U).tmod 86400 = r := hr0
 repeat' (refine den_ite (fun h => ?_) (fun h => ?_))
 all_goals first
  | (rw [sec (fun _ => by omega) (by omega)]; simp only [V.den, V.dens, X.evI, e14]; rfl)
  | (rw [good (fun _ => by omega) (fun h => by omega)]; simp only [V.den, V.dens, X.evI, X.evB, X.evS, e1, e11, e12, e13, hr]; rw [(hA (by assumption)).1, (hA (by assumption)).2]; rfl)
  | (rw [good (fun _ => by omega) (fun h => by omega)]; simp only [V.den, V.dens, X.evI, X.evB, X.evS, e1, e11, e12, e13, hr]; rw [(hB (by assumption)).1, (hB (by assumption)).2]; rfl)
theorem pof3_at (T M : Int) (hT : Small T) : (trOf3.at (envE (.int .i64 M :: ofE T))).den L0 (envE (.int .i64 M :: ofE T)) = ofV 3 T := by
 obtain ⟨f1, f2⟩ := Mo.tdiv_floor (T / Dc.U)
 have t0 := hT.1
 have t1 := hT.2
 have b1 : -86400 < (T / Dc.U).tmod 86400 /\ (T / Dc.U).tmod 86400 < 86400 := by
  have h2 := Int.tmod_lt_of_pos (T / Dc.U) (b := 86400) (by decide)
  have := Int.tmod_lt_of_pos (-(T / Dc.U)) (b := 86400) (by decide)
  rw [Int.neg_tmod] at this
  omega
 have far := ofV_far (k := 3) (T := T) (by decide)
 have sec := ofV_sec (k := 3) (T := T) (by decide)
 have good := ofV_good (k := 3) (T := T)
 generalize hE : envE (.int .i64 M :: ofE T) = E
 have e1 : E 1 = .int .i64 (T / Dc.U) := by rw [<- hE]; rfl
 have e5 : E 5 = .int .i64 (Mo.dateOf (Mo.dayOf T)).1 := by rw [<- hE]; rfl
 have e6 : E 6 = .int .i64 (Mo.dateOf (Mo.dayOf T)).2.1 := by rw [<- hE]; rfl
 have e7 : E 7 = .int .i64 (Mo.dateOf (Mo.dayOf T)).2.2 := by rw [<- hE]; rfl
 have e11 : E 11 = .bool (Mo.secOf T).n := by rw [<- hE]; rfl
 have e12 : E 12 = .string (Mo.secOf T).s := by rw [<- hE]; rfl
 have e13 : E 13 = .int .i64 (Mo.secOf T).S := by rw [<- hE]; rfl
 have e14 : E 14 = .int .i64 (Mo.secOf T).k := by rw [<- hE]; rfl
 clear hE
 have hD : ((T / Dc.U).tmod 86400 < 0 /\ Mo.dayOf T = (T / Dc.U).tdiv 86400 - 1) \/ (¬ (T / Dc.U).tmod 86400 < 0 /\ Mo.dayOf T = (T / Dc.U).tdiv 86400) := by
  unfold Mo.dayOf
  by_cases h : (T / Dc.U).tmod 86400 < 0
  ·rw [if_pos h] at f1; exact .inl ⟨h, f1⟩
  ·rw [if_neg h] at f1; exact .inr ⟨h, f1⟩
 have hR : ((T / Dc.U).tmod 86400 < 0 /\ Mo.restOf T = (T / Dc.U).tmod 86400 + 86400) \/ (¬ (T / Dc.U).tmod 86400 < 0 /\ Mo.restOf T = (T / Dc.U).tmod 86400) := by
  unfold Mo.restOf
  by_cases h : (T / Dc.U).tmod 86400 < 0
  ·rw [if_pos h] at f2; exact .inl ⟨h, f2⟩
  ·rw [if_neg h] at f2; exact .inr ⟨h, f2⟩
 have hq : -9223372036854775807 <= (T / Dc.U).tdiv 86400 /\ (T / Dc.U).tdiv 86400 <= 9223372036854775807 := by split at f1 <;> omega
 have hC : ((Mo.dateOf (Mo.dayOf T)).1 < 1 /\ Mo.called (Mo.dateOf (Mo.dayOf T)).1 = (Mo.dateOf (Mo.dayOf T)).1 - 1) \/ (¬ (Mo.dateOf (Mo.dayOf T)).1 < 1 /\ Mo.called (Mo.dateOf (Mo.dayOf T)).1 = (Mo.dateOf (Mo.dayOf T)).1) := by
  unfold Mo.called
  by_cases h : (Mo.dateOf (Mo.dayOf T)).1 < 1
  ·rw [if_pos h]; exact .inl ⟨h, rfl⟩
  ·rw [if_neg h]; exact .inr ⟨h, rfl⟩
 have hY : -4000000 <= Mo.dayOf T -> Mo.dayOf T <= 4000000 -> -12000 <= (Mo.dateOf (Mo.dayOf T)).1 /\ (Mo.dateOf (Mo.dayOf T)).1 <= 12000 := fun a b => Mo.dateOf_bd a b
 have w1 : IntKind.i64.wrap ((T / Dc.U).tdiv 86400) = (T / Dc.U).tdiv 86400 := w64 (by omega) (by omega)
 have w2 : IntKind.i64.wrap ((T / Dc.U).tdiv 86400 - 1) = (T / Dc.U).tdiv 86400 - 1 := w64 (by omega) (by omega)
 clear f1 f2
 simp only [trOf3, Tree.at, X.evB, X.evI, e1, e5, e14, w1, w2, Bool.cond_eq_ite, decide_eq_true_eq]
 generalize hy : (Mo.dateOf (Mo.dayOf T)).1 = y at *
 generalize hc : Mo.called y = c at *
 generalize hd : Mo.dayOf T = D at *
 generalize (T / Dc.U).tdiv 86400 = q at *
 generalize hr0 : (T / Dc.U).tmod 86400 = r at *
 generalize hRR : Mo.restOf T = R at *
 have hA : r < 0 -> IntKind.i64.wrap ((IntKind.i64.wrap (r + 86400)).tdiv 3600) = R / 3600 /\ (IntKind.i64.wrap ((IntKind.i64.wrap (r + 86400)).tdiv 60)).tmod 60 = R / 60 % 60 := fun h => by
  rw [w64 (n := r + 86400) (by omega) (by omega), Int.tdiv_eq_ediv_of_nonneg (by omega), Int.tdiv_eq_ediv_of_nonneg (by omega), w64 (n := (r + 86400) / 3600) (by omega) (by omega), w64 (n := (r + 86400) / 60) (by omega) (by omega), Int.tmod_eq_emod_of_nonneg (by omega)]
  omega
 have hB : ¬ r < 0 -> IntKind.i64.wrap (r.tdiv 3600) = R / 3600 /\ (IntKind.i64.wrap (r.tdiv 60)).tmod 60 = R / 60 % 60 := fun h => by
  rw [Int.tdiv_eq_ediv_of_nonneg (by omega), Int.tdiv_eq_ediv_of_nonneg (by omega), w64 (n := r / 3600) (by omega) (by omega), w64 (n := r / 60) (by omega) (by omega), Int.tmod_eq_emod_of_nonneg (by omega)]
  omega
 have hr : (T / Dc.U).tmod 86400 = r := hr0
 have hw : IntKind.i64.wrap (y - 1) = (y - 1 + 9223372036854775808) % 18446744073709551616 - 9223372036854775808 := IntKind.wrap_i64 _
 obtain ⟨z, hz⟩ : ∃ z, IntKind.i64.wrap (y - 1) = z := ⟨_, rfl⟩
 rw [hz] at hw
 simp only [hz]
 repeat' (refine den_ite (fun h => ?_) (fun h => ?_))
 all_goals first
  | (rw [far (by omega)]; rfl)
  | (rw [sec (fun _ => by omega) (by omega)]; simp only [V.den, V.dens, X.evI, e14]; rfl)
  | (rw [good (fun _ => by omega) (fun h => by omega)]; simp only [V.den, V.dens, X.evI, X.evB, X.evS, e1, e5, e6, e7, e11, e12, e13, hz, hr]; rw [(hA (by assumption)).1, (hA (by assumption)).2]; rw [show c = z by omega]; rfl)
  | (rw [good (fun _ => by omega) (fun h => by omega)]; simp only [V.den, V.dens, X.evI, X.evB, X.evS, e1, e5, e6, e7, e11, e12, e13, hz, hr]; rw [(hB (by assumption)).1, (hB (by assumption)).2]; rw [show c = z by omega]; rfl)
  | (rw [good (fun _ => by omega) (fun h => by omega)]; simp only [V.den, V.dens, X.evI, X.evB, X.evS, e1, e5, e6, e7, e11, e12, e13, hr]; rw [(hA (by assumption)).1, (hA (by assumption)).2]; rw [show c = y by omega]; rfl)
  | (rw [good (fun _ => by omega) (fun h => by omega)]; simp only [V.den, V.dens, X.evI, X.evB, X.evS, e1, e5, e6, e7, e11, e12, e13, hr]; rw [(hB (by assumption)).1, (hB (by assumption)).2]; rw [show c = y by omega]; rfl)
theorem pof_m (k T : Int) (hk : k = 1 \/ k = 2 \/ k = 3) (hT : Small T) (w : World) (M : Int) (hV : Vars M w) : Calls Tryz.prog 37 #[.int .i64 k, .agg (ptL T).toArray] w fun e w' => e = .returned (ofV k T) /\ Below w.heap.size w w' := by
 rcases hk with rfl | rfl | rfl
 ·have h := tree_run (env := ofE T) prun_of1 (pof_ok T M hT) rfl trivial rfl hV
  rw [pof1_at T M hT] at h
  exact h
 ·have h := tree_run (env := ofE T) prun_of2 (pof_ok T M hT) rfl trivial rfl hV
  rw [pof2_at T M hT] at h
  exact h
 ·have h := tree_run (env := ofE T) prun_of3 (pof_ok T M hT) rfl trivial rfl hV
  rw [pof3_at T M hT] at h
  exact h
end Go.Proofs.YtckodhldimhbfaaGreatDoor
